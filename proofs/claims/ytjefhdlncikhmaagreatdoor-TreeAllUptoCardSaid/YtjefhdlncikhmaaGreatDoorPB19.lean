/- Joined by a program: Wr6e, Wr6f, Wr6g, Wr6. -/
import Derived.WalkKit
import Derived.Test.YtjefhdlncikhmaaGreatDoorShelf
import Derived.Test.YtjefhdlncikhmaaGreatDoorPB14
import Derived.Test.YtjefhdlncikhmaaGreatDoorPB15
import Derived.Test.YtjefhdlncikhmaaGreatDoorPB16
import Derived.Test.YtjefhdlncikhmaaGreatDoorPB17
import Derived.Test.YtjefhdlncikhmaaGreatDoorPB18
namespace Go.Proofs.YtjefhdlncikhmaaGreatDoor
section
set_option linter.unusedVariables false
set_option linter.unusedSimpArgs false
open Go.RowKit
set_option maxRecDepth 1000000
set_option maxHeartbeats 8000000 in
theorem wl_simple (D : Nat) (w0 : World) (X dep : Nat) (hdp : dep + (D + 1) ≤ 1000000) (T : Nd) (hS : FSays 88 w0 X dep simpL T) (hk : 3 ≤ T.kind ∧ T.kind ≤ 14) : FSays 47 w0 X dep (fun t => t.lin dep) T := by
  intro A c K d l0 w hN hBs hW hlen
  have hdm : dep ≤ 1000000 := by omega
  have hlen : l0.length + (T.lin dep).length ≤ 1000000000000 := hlen
  have hts : T.lin dep = padL dep ++ simpL T ++ [10] := lin_simp hk dep
  rw [hts] at hlen
  have HTX := Lib.hid hts
  have HLN := Lib.hid hlen
  have HS := Lib.hid hS
  have HNT := Lib.hid hN
  have z15 : (T.kind == 15) = false := beq_eq_false_iff_ne.2 (by omega)
  have z16 : (T.kind == 16) = false := beq_eq_false_iff_ne.2 (by omega)
  have z17 : (T.kind == 17) = false := beq_eq_false_iff_ne.2 (by omega)
  have z18 : (T.kind == 18) = false := beq_eq_false_iff_ne.2 (by omega)
  have z20 : (T.kind == 20) = false := beq_eq_false_iff_ne.2 (by omega)
  have z21 : (T.kind == 21) = false := beq_eq_false_iff_ne.2 (by omega)
  obtain ⟨hm1, hm2, hrm, hw32, hk1, hk2, hk64, ha64, hts', hKs⟩ := hN.parts
  have hk2' := hk2
  unfold maxLen at hm2 hk2 hts'
  obtain ⟨hk64a, hk64b⟩ := hk64
  obtain ⟨ha64a, ha64b⟩ := ha64
  have hB0 : w0.heap.size ≤ w.heap.size := hBs.size
  have hbX : X < w.heap.size := WrT.lt hW
  have hK0 : WK w0.heap.size X w (w.alloc (.cells #[.int .i64 T.kind, .int .i64 T.pos, .string T.text, .bool T.neg, .slice A T.mag.length c, .slice K T.kids.length d] 27)) := (WK.refl _ _ _).alloc hB0 _
  have hWb := hW.alloc (.cells #[.int .i64 T.kind, .int .i64 T.pos, .string T.text, .bool T.neg, .slice A T.mag.length c, .slice K T.kids.length d] 27)
  have hBb : Below w0.heap.size w0 (w.alloc (.cells #[.int .i64 T.kind, .int .i64 T.pos, .string T.text, .bool T.neg, .slice A T.mag.length c, .slice K T.kids.length d] 27)) := hBs.trans hK0.b
  have hbx := heap_alloc_new w (.cells #[.int .i64 T.kind, .int .i64 T.pos, .string T.text, .bool T.neg, .slice A T.mag.length c, .slice K T.kids.length d] 27)
  have hsg : (w.alloc (.cells #[.int .i64 T.kind, .int .i64 T.pos, .string T.text, .bool T.neg, .slice A T.mag.length c, .slice K T.kids.length d] 27)).heap.size = w.heap.size + 1 := by simp
  clear hKs hN hlen hrm hw32 hk hts hS
  obtain ⟨c0, c1, c2, c3, c4, c5⟩ := (cells_box hbx).box
  have hlb := World.block_lt_of_cell? _ _ c0
  have hlX := WrT.lt hWb
  unfold ndV
  go_enter Tryz.func47, Tryz.ntmps47
  go_wp2_with fail
  go_at_call 80
  refine (wHead_ok w0.heap.size X dep _ [] [] 0 none _ hWb rfl (.inl rfl) rfl (by decide) hdm (by have h := HLN.out; have hpl := padL_len dep; (try simp only [List.length_append, List.length_cons, List.length_nil, List.length_singleton] at h); (try simp only [List.length_append, List.length_cons, List.length_nil, List.length_singleton]); omega) (Nat.le_trans hB0 hK0.b.size)).mono ?_
  rintro e w_1 ⟨rfl, hW_1, hk_1⟩
  have hK_1 := hK0.trans hk_1
  have hbx := box_keep hk_1 hbx hbX
  have hB_1 : Below w0.heap.size w0 w_1 := hBs.trans hK_1.b
  obtain ⟨c0, c1, c2, c3, c4, c5⟩ := (cells_box hbx).box
  have hlb := World.block_lt_of_cell? _ _ c0
  have hlX := WrT.lt hW_1
  go_wp2_with fail
  have hI := HS.out A c K d _ _ HNT.out hB_1 hW_1 (by have h := HLN.out; (try simp only [List.length_append, List.length_cons, List.length_nil, List.length_singleton] at h); (try simp only [List.length_append, List.length_cons, List.length_nil, List.length_singleton]); omega)
  unfold ndV at hI
  go_at_call 88
  refine hI.mono ?_
  rintro e w_2 ⟨rfl, hW_2, hk_2⟩
  have hK_2 := hK_1.trans hk_2
  have hbx := box_keep hk_2 hbx hbX
  clear hI
  have hB_2 : Below w0.heap.size w0 w_2 := hBs.trans hK_2.b
  obtain ⟨c0, c1, c2, c3, c4, c5⟩ := (cells_box hbx).box
  have hlb := World.block_lt_of_cell? _ _ c0
  have hlX := WrT.lt hW_2
  go_wp2_with fail
  have hWa := hW_2.alloc (.cells #[.string { data := #[10] }] 9)
  have hKa := hK_2.alloc (Nat.le_trans hB0 hK_2.b.size) (.cells #[.string { data := #[10] }] 9)
  have hbxa := (Lib.alloc_old _ (.cells #[.string { data := #[10] }] 9) _ hlb).trans hbx
  go_at_call 84
  refine (wSayT_ok w0.heap.size X dep _ ([10]) [⟨#[10]⟩] 1 _ _ hWa rfl (WrT.lt hW_2) (heap_alloc_new _ _) rfl (by decide) (by have h := HLN.out; (try simp only [List.length_append, List.length_cons, List.length_nil, List.length_singleton] at h); (try simp only [List.length_append, List.length_cons, List.length_nil, List.length_singleton]); omega) (Nat.le_trans hB0 hKa.b.size)).mono ?_
  rintro e w_3 ⟨rfl, hW_3, hk_3⟩
  have hK_3 := hKa.trans hk_3
  have hbx := box_keep hk_3 hbxa hbX
  have hB_3 : Below w0.heap.size w0 w_3 := hBs.trans hK_3.b
  obtain ⟨c0, c1, c2, c3, c4, c5⟩ := (cells_box hbx).box
  have hlb := World.block_lt_of_cell? _ _ c0
  have hlX := WrT.lt hW_3
  go_wp2_with fail
  ((try simp only [Exit.inBlock, Exit.then]); first | refine bodyPost_end (results_none rfl _ _ _) rfl ?_ | refine bodyPost_ret (results_none rfl _ _ _) rfl ?_)
  exact ⟨rfl, hW_3.eq (by show _ = l0 ++ T.lin dep; rw [HTX.out]; try simp only [List.append_assoc, List.append_nil, List.nil_append, List.cons_append, List.singleton_append]), hK_3⟩
set_option maxHeartbeats 8000000 in
theorem wxzz (D : Nat) (w0 : World) (X dep : Nat) (hdp : dep + (D + 1) ≤ 1000000) (hL : LOk D w0 X) (T : Nd) (hk : T.kind = 22) (hT : T.right = true) (t0 t1 : Nd) (hks : T.kids = [t0, t1]) (hq : t0.kind = 0) (htz : T.text.size = 0) (hD : T.depth ≤ D + 1) (hWt : T.weight ≤ 1000000) : FSays 87 w0 X dep (fun t => t.lin dep) T := by
  intro A c K d l0 w hN hBs hW hlen
  have hdm : dep ≤ 1000000 := by omega
  have HTE := Lib.hid (text_empty T.text)
  have et : T.text.toList.isEmpty = true := by rw [HTE.out]; rw [htz]; rfl
  have q0 : (t0.kind != 0) = false := by simp [hq]
  rw [exc_eq hk hks] at hT
  simp only [Bool.and_eq_true] at hT
  have r1 := hT.2.1.2
  have hlen3 : T.kids.length = 2 := by rw [hks]; rfl
  have hg0 : T.kids[0]? = some t0 := by rw [hks]; rfl
  obtain ⟨b, off, A0, c0', K0, d0, hKe0, hC0, hN0⟩ := hN.kid hg0
  have hd0 : t0.depth ≤ D ∧ t0.weight ≤ 1000000 := within_kidsM hD hWt t0 (List.mem_of_getElem? hg0)
  have hg1 : T.kids[1]? = some t1 := by rw [hks]; rfl
  obtain ⟨b1, off1, A1, c1', K1, d1, hKe1, hC1, hN1⟩ := hN.kid hg1
  have hd1 : t1.depth ≤ D ∧ t1.weight ≤ 1000000 := within_kidsM hD hWt t1 (List.mem_of_getElem? hg1)
  rw [Nat.zero_mul, Nat.add_zero] at hC0
  subst hKe0
  injection hKe1 with e1
  injection e1 with e1 e2
  subst e1 e2
  rw [show 1 * 6 = 6 from rfl] at hC1
  have HF1 := Lib.hid (wInner_ok D w0 X dep (by omega) hL t1 (blk_of r1) (by omega) hd1.2)
  have HN0 := Lib.hid hN0
  have i0 : (0 : Int) < (T.kids.length : Int) := by omega
  have i0' : 0 < T.kids.length := by omega
  have HN1 := Lib.hid hN1
  have i1 : (1 : Int) < (T.kids.length : Int) := by omega
  have i1' : 1 < T.kids.length := by omega
  have hlen : l0.length + (T.lin dep).length ≤ 1000000000000 := hlen
  have hts : T.lin dep = padL dep ++ [101, 120, 99, 101, 112, 116] ++ [58, 10] ++ t1.lin (dep + 1) := by rw [lin_eq]; simp [linOf, hk, hks, kd, gy, maybeL, hq, htz]
  rw [hts] at hlen
  have HTX := Lib.hid hts
  have HLN := Lib.hid hlen
  obtain ⟨hm1, hm2, hrm, hw32, hk1, hk2, hk64, ha64, hts', hKs⟩ := hN.parts
  have hk2' := hk2
  unfold maxLen at hm2 hk2 hts'
  obtain ⟨hk64a, hk64b⟩ := hk64
  obtain ⟨ha64a, ha64b⟩ := ha64
  have hB0 : w0.heap.size ≤ w.heap.size := hBs.size
  have hbX : X < w.heap.size := WrT.lt hW
  have hK0 : WK w0.heap.size X w (w.alloc (.cells #[.int .i64 T.kind, .int .i64 T.pos, .string T.text, .bool T.neg, .slice A T.mag.length c, .slice (some ⟨b, off, none⟩) T.kids.length d] 27)) := (WK.refl _ _ _).alloc hB0 _
  have hWb := hW.alloc (.cells #[.int .i64 T.kind, .int .i64 T.pos, .string T.text, .bool T.neg, .slice A T.mag.length c, .slice (some ⟨b, off, none⟩) T.kids.length d] 27)
  have hBb : Below w0.heap.size w0 (w.alloc (.cells #[.int .i64 T.kind, .int .i64 T.pos, .string T.text, .bool T.neg, .slice A T.mag.length c, .slice (some ⟨b, off, none⟩) T.kids.length d] 27)) := hBs.trans hK0.b
  have hbx := heap_alloc_new w (.cells #[.int .i64 T.kind, .int .i64 T.pos, .string T.text, .bool T.neg, .slice A T.mag.length c, .slice (some ⟨b, off, none⟩) T.kids.length d] 27)
  have hsg : (w.alloc (.cells #[.int .i64 T.kind, .int .i64 T.pos, .string T.text, .bool T.neg, .slice A T.mag.length c, .slice (some ⟨b, off, none⟩) T.kids.length d] 27)).heap.size = w.heap.size + 1 := by simp
  clear hKs hN hlen hT hD hWt hrm hw32 hk hts hg0 hg1 hN0 hN1 hd0 hd1 r1 hks hlen3 hq htz hL
  obtain ⟨c0, c1, c2, c3, c4, c5⟩ := (cells_box hbx).box
  have hlb := World.block_lt_of_cell? _ _ c0
  obtain ⟨n0_0, n0_1, n0_2, n0_3, n0_4, n0_5⟩ := hC0.later hBb
  have hlk0 := World.block_lt_of_cell? _ _ n0_0
  obtain ⟨n1_0, n1_1, n1_2, n1_3, n1_4, n1_5⟩ := hC1.later hBb
  have hlk1 := World.block_lt_of_cell? _ _ n1_0
  have hlX := WrT.lt hWb
  unfold ndV
  go_enter Tryz.func87, Tryz.ntmps87
  go_wp2_with fail
  have hWa := hWb.alloc (.cells #[.string { data := #[101, 120, 99, 101, 112, 116] }] 9)
  have hKa := hK0.alloc (Nat.le_trans hB0 hK0.b.size) (.cells #[.string { data := #[101, 120, 99, 101, 112, 116] }] 9)
  have hbxa := (Lib.alloc_old _ (.cells #[.string { data := #[101, 120, 99, 101, 112, 116] }] 9) _ hlb).trans hbx
  have hlta : X < w.heap.size + 1 := (by have := WrT.lt hWb; rw [hsg] at this; exact this)
  go_at_call 80
  refine (wHead_ok w0.heap.size X dep _ ([101, 120, 99, 101, 112, 116]) [⟨#[101, 120, 99, 101, 112, 116]⟩] 1 _ _ hWa rfl (.inr ⟨w.heap.size + 1, rfl, by omega, (by rw [← hsg]; exact heap_alloc_new _ _)⟩) rfl (by decide) hdm (by have h := HLN.out; have hpl := padL_len dep; (try simp only [List.length_append, List.length_cons, List.length_nil, List.length_singleton] at h); (try simp only [List.length_append, List.length_cons, List.length_nil, List.length_singleton]); omega) (Nat.le_trans hB0 hKa.b.size)).mono ?_
  rintro e w_1 ⟨rfl, hW_1, hk_1⟩
  have hK_1 := hKa.trans hk_1
  have hbx := box_keep hk_1 hbxa hbX
  have hB_1 : Below w0.heap.size w0 w_1 := hBs.trans hK_1.b
  obtain ⟨c0, c1, c2, c3, c4, c5⟩ := (cells_box hbx).box
  have hlb := World.block_lt_of_cell? _ _ c0
  obtain ⟨n0_0, n0_1, n0_2, n0_3, n0_4, n0_5⟩ := hC0.later hB_1
  have hlk0 := World.block_lt_of_cell? _ _ n0_0
  obtain ⟨n1_0, n1_1, n1_2, n1_3, n1_4, n1_5⟩ := hC1.later hB_1
  have hlk1 := World.block_lt_of_cell? _ _ n1_0
  have hlX := WrT.lt hW_1
  go_wp2_with fail
  have hI := HF1.out A1 c1' K1 d1 _ _ HN1.out hB_1 hW_1 (by have h := HLN.out; (try simp only [List.length_append, List.length_cons, List.length_nil, List.length_singleton] at h); (try simp only [List.length_append, List.length_cons, List.length_nil, List.length_singleton]); omega)
  unfold ndV at hI
  go_at_call 82
  refine hI.mono ?_
  rintro e w_2 ⟨rfl, hW_2, hk_2⟩
  have hK_2 := hK_1.trans hk_2
  have hbx := box_keep hk_2 hbx hbX
  clear hI
  have hB_2 : Below w0.heap.size w0 w_2 := hBs.trans hK_2.b
  obtain ⟨c0, c1, c2, c3, c4, c5⟩ := (cells_box hbx).box
  have hlb := World.block_lt_of_cell? _ _ c0
  obtain ⟨n0_0, n0_1, n0_2, n0_3, n0_4, n0_5⟩ := hC0.later hB_2
  have hlk0 := World.block_lt_of_cell? _ _ n0_0
  obtain ⟨n1_0, n1_1, n1_2, n1_3, n1_4, n1_5⟩ := hC1.later hB_2
  have hlk1 := World.block_lt_of_cell? _ _ n1_0
  have hlX := WrT.lt hW_2
  go_wp2_with fail
  ((try simp only [Exit.inBlock, Exit.then]); first | refine bodyPost_end (results_none rfl _ _ _) rfl ?_ | refine bodyPost_ret (results_none rfl _ _ _) rfl ?_)
  exact ⟨rfl, hW_2.eq (by show _ = l0 ++ T.lin dep; rw [HTX.out]; try simp only [List.append_assoc, List.append_nil, List.nil_append, List.cons_append, List.singleton_append]), hK_2⟩
set_option maxHeartbeats 8000000 in
theorem wxez (D : Nat) (w0 : World) (X dep : Nat) (hdp : dep + (D + 1) ≤ 1000000) (hL : LOk D w0 X) (T : Nd) (hk : T.kind = 22) (hT : T.right = true) (t0 t1 : Nd) (hks : T.kids = [t0, t1]) (hq : ¬ t0.kind = 0) (htz : T.text.size = 0) (hD : T.depth ≤ D + 1) (hWt : T.weight ≤ 1000000) : FSays 87 w0 X dep (fun t => t.lin dep) T := by
  intro A c K d l0 w hN hBs hW hlen
  have hdm : dep ≤ 1000000 := by omega
  have HTE := Lib.hid (text_empty T.text)
  have et : T.text.toList.isEmpty = true := by rw [HTE.out]; rw [htz]; rfl
  have q0 : (t0.kind != 0) = true := by simp [hq]
  rw [exc_eq hk hks] at hT
  simp only [Bool.and_eq_true] at hT
  have r1 := hT.2.1.2
  have hlen3 : T.kids.length = 2 := by rw [hks]; rfl
  have r0 : Ex t0 := by
    rcases Bool.or_eq_true _ _ ▸ hT.2.1.1 with h | h
    · exact absurd (kind_none h) hq
    · exact ev_ex h
  have hg0 : T.kids[0]? = some t0 := by rw [hks]; rfl
  obtain ⟨b, off, A0, c0', K0, d0, hKe0, hC0, hN0⟩ := hN.kid hg0
  have hd0 : t0.depth ≤ D ∧ t0.weight ≤ 1000000 := within_kidsM hD hWt t0 (List.mem_of_getElem? hg0)
  have hg1 : T.kids[1]? = some t1 := by rw [hks]; rfl
  obtain ⟨b1, off1, A1, c1', K1, d1, hKe1, hC1, hN1⟩ := hN.kid hg1
  have hd1 : t1.depth ≤ D ∧ t1.weight ≤ 1000000 := within_kidsM hD hWt t1 (List.mem_of_getElem? hg1)
  rw [Nat.zero_mul, Nat.add_zero] at hC0
  subst hKe0
  injection hKe1 with e1
  injection e1 with e1 e2
  subst e1 e2
  rw [show 1 * 6 = 6 from rfl] at hC1
  have HF0 := Lib.hid (wExpr_ok w0 X dep D t0 r0 hd0.1 hd0.2)
  have HF1 := Lib.hid (wInner_ok D w0 X dep (by omega) hL t1 (blk_of r1) (by omega) hd1.2)
  have HN0 := Lib.hid hN0
  have i0 : (0 : Int) < (T.kids.length : Int) := by omega
  have i0' : 0 < T.kids.length := by omega
  have HN1 := Lib.hid hN1
  have i1 : (1 : Int) < (T.kids.length : Int) := by omega
  have i1' : 1 < T.kids.length := by omega
  have hlen : l0.length + (T.lin dep).length ≤ 1000000000000 := hlen
  have hts : T.lin dep = padL dep ++ [101, 120, 99, 101, 112, 116] ++ [32] ++ t0.txt ++ [58, 10] ++ t1.lin (dep + 1) := by rw [lin_eq]; simp [linOf, hk, hks, kd, gy, maybeL, hq, htz]
  rw [hts] at hlen
  have HTX := Lib.hid hts
  have HLN := Lib.hid hlen
  obtain ⟨hm1, hm2, hrm, hw32, hk1, hk2, hk64, ha64, hts', hKs⟩ := hN.parts
  have hk2' := hk2
  unfold maxLen at hm2 hk2 hts'
  obtain ⟨hk64a, hk64b⟩ := hk64
  obtain ⟨ha64a, ha64b⟩ := ha64
  have hB0 : w0.heap.size ≤ w.heap.size := hBs.size
  have hbX : X < w.heap.size := WrT.lt hW
  have hK0 : WK w0.heap.size X w (w.alloc (.cells #[.int .i64 T.kind, .int .i64 T.pos, .string T.text, .bool T.neg, .slice A T.mag.length c, .slice (some ⟨b, off, none⟩) T.kids.length d] 27)) := (WK.refl _ _ _).alloc hB0 _
  have hWb := hW.alloc (.cells #[.int .i64 T.kind, .int .i64 T.pos, .string T.text, .bool T.neg, .slice A T.mag.length c, .slice (some ⟨b, off, none⟩) T.kids.length d] 27)
  have hBb : Below w0.heap.size w0 (w.alloc (.cells #[.int .i64 T.kind, .int .i64 T.pos, .string T.text, .bool T.neg, .slice A T.mag.length c, .slice (some ⟨b, off, none⟩) T.kids.length d] 27)) := hBs.trans hK0.b
  have hbx := heap_alloc_new w (.cells #[.int .i64 T.kind, .int .i64 T.pos, .string T.text, .bool T.neg, .slice A T.mag.length c, .slice (some ⟨b, off, none⟩) T.kids.length d] 27)
  have hsg : (w.alloc (.cells #[.int .i64 T.kind, .int .i64 T.pos, .string T.text, .bool T.neg, .slice A T.mag.length c, .slice (some ⟨b, off, none⟩) T.kids.length d] 27)).heap.size = w.heap.size + 1 := by simp
  clear hKs hN hlen hT hD hWt hrm hw32 hk hts hg0 hg1 hN0 hN1 hd0 hd1 r1 hks hlen3 hq htz hL r0
  obtain ⟨c0, c1, c2, c3, c4, c5⟩ := (cells_box hbx).box
  have hlb := World.block_lt_of_cell? _ _ c0
  obtain ⟨n0_0, n0_1, n0_2, n0_3, n0_4, n0_5⟩ := hC0.later hBb
  have hlk0 := World.block_lt_of_cell? _ _ n0_0
  obtain ⟨n1_0, n1_1, n1_2, n1_3, n1_4, n1_5⟩ := hC1.later hBb
  have hlk1 := World.block_lt_of_cell? _ _ n1_0
  have hlX := WrT.lt hWb
  unfold ndV
  go_enter Tryz.func87, Tryz.ntmps87
  go_wp2_with fail
  have hWa := hWb.alloc (.cells #[.string { data := #[101, 120, 99, 101, 112, 116] }] 9)
  have hKa := hK0.alloc (Nat.le_trans hB0 hK0.b.size) (.cells #[.string { data := #[101, 120, 99, 101, 112, 116] }] 9)
  have hbxa := (Lib.alloc_old _ (.cells #[.string { data := #[101, 120, 99, 101, 112, 116] }] 9) _ hlb).trans hbx
  have hlta : X < w.heap.size + 1 := (by have := WrT.lt hWb; rw [hsg] at this; exact this)
  go_at_call 80
  refine (wHead_ok w0.heap.size X dep _ ([101, 120, 99, 101, 112, 116]) [⟨#[101, 120, 99, 101, 112, 116]⟩] 1 _ _ hWa rfl (.inr ⟨w.heap.size + 1, rfl, by omega, (by rw [← hsg]; exact heap_alloc_new _ _)⟩) rfl (by decide) hdm (by have h := HLN.out; have hpl := padL_len dep; (try simp only [List.length_append, List.length_cons, List.length_nil, List.length_singleton] at h); (try simp only [List.length_append, List.length_cons, List.length_nil, List.length_singleton]); omega) (Nat.le_trans hB0 hKa.b.size)).mono ?_
  rintro e w_1 ⟨rfl, hW_1, hk_1⟩
  have hK_1 := hKa.trans hk_1
  have hbx := box_keep hk_1 hbxa hbX
  have hB_1 : Below w0.heap.size w0 w_1 := hBs.trans hK_1.b
  obtain ⟨c0, c1, c2, c3, c4, c5⟩ := (cells_box hbx).box
  have hlb := World.block_lt_of_cell? _ _ c0
  obtain ⟨n0_0, n0_1, n0_2, n0_3, n0_4, n0_5⟩ := hC0.later hB_1
  have hlk0 := World.block_lt_of_cell? _ _ n0_0
  obtain ⟨n1_0, n1_1, n1_2, n1_3, n1_4, n1_5⟩ := hC1.later hB_1
  have hlk1 := World.block_lt_of_cell? _ _ n1_0
  have hlX := WrT.lt hW_1
  go_wp2_with fail
  have hWa := hW_1.alloc (.cells #[.string { data := #[32] }] 9)
  have hKa := hK_1.alloc (Nat.le_trans hB0 hK_1.b.size) (.cells #[.string { data := #[32] }] 9)
  have hbxa := (Lib.alloc_old _ (.cells #[.string { data := #[32] }] 9) _ hlb).trans hbx
  go_at_call 84
  refine (wSayT_ok w0.heap.size X dep _ ([32]) [⟨#[32]⟩] 1 _ _ hWa rfl (WrT.lt hW_1) (heap_alloc_new _ _) rfl (by decide) (by have h := HLN.out; (try simp only [List.length_append, List.length_cons, List.length_nil, List.length_singleton] at h); (try simp only [List.length_append, List.length_cons, List.length_nil, List.length_singleton]); omega) (Nat.le_trans hB0 hKa.b.size)).mono ?_
  rintro e w_2 ⟨rfl, hW_2, hk_2⟩
  have hK_2 := hKa.trans hk_2
  have hbx := box_keep hk_2 hbxa hbX
  have hB_2 : Below w0.heap.size w0 w_2 := hBs.trans hK_2.b
  obtain ⟨c0, c1, c2, c3, c4, c5⟩ := (cells_box hbx).box
  have hlb := World.block_lt_of_cell? _ _ c0
  obtain ⟨n0_0, n0_1, n0_2, n0_3, n0_4, n0_5⟩ := hC0.later hB_2
  have hlk0 := World.block_lt_of_cell? _ _ n0_0
  obtain ⟨n1_0, n1_1, n1_2, n1_3, n1_4, n1_5⟩ := hC1.later hB_2
  have hlk1 := World.block_lt_of_cell? _ _ n1_0
  have hlX := WrT.lt hW_2
  go_wp2_with fail
  have hI := HF0.out A0 c0' K0 d0 _ _ HN0.out hB_2 hW_2 (by have h := HLN.out; (try simp only [List.length_append, List.length_cons, List.length_nil, List.length_singleton] at h); (try simp only [List.length_append, List.length_cons, List.length_nil, List.length_singleton]); omega)
  unfold ndV at hI
  go_at_call 81
  refine hI.mono ?_
  rintro e w_3 ⟨rfl, hW_3, hk_3⟩
  have hK_3 := hK_2.trans hk_3
  have hbx := box_keep hk_3 hbx hbX
  clear hI
  have hB_3 : Below w0.heap.size w0 w_3 := hBs.trans hK_3.b
  obtain ⟨c0, c1, c2, c3, c4, c5⟩ := (cells_box hbx).box
  have hlb := World.block_lt_of_cell? _ _ c0
  obtain ⟨n0_0, n0_1, n0_2, n0_3, n0_4, n0_5⟩ := hC0.later hB_3
  have hlk0 := World.block_lt_of_cell? _ _ n0_0
  obtain ⟨n1_0, n1_1, n1_2, n1_3, n1_4, n1_5⟩ := hC1.later hB_3
  have hlk1 := World.block_lt_of_cell? _ _ n1_0
  have hlX := WrT.lt hW_3
  go_wp2_with fail
  have hI := HF1.out A1 c1' K1 d1 _ _ HN1.out hB_3 hW_3 (by have h := HLN.out; (try simp only [List.length_append, List.length_cons, List.length_nil, List.length_singleton] at h); (try simp only [List.length_append, List.length_cons, List.length_nil, List.length_singleton]); omega)
  unfold ndV at hI
  go_at_call 82
  refine hI.mono ?_
  rintro e w_4 ⟨rfl, hW_4, hk_4⟩
  have hK_4 := hK_3.trans hk_4
  have hbx := box_keep hk_4 hbx hbX
  clear hI
  have hB_4 : Below w0.heap.size w0 w_4 := hBs.trans hK_4.b
  obtain ⟨c0, c1, c2, c3, c4, c5⟩ := (cells_box hbx).box
  have hlb := World.block_lt_of_cell? _ _ c0
  obtain ⟨n0_0, n0_1, n0_2, n0_3, n0_4, n0_5⟩ := hC0.later hB_4
  have hlk0 := World.block_lt_of_cell? _ _ n0_0
  obtain ⟨n1_0, n1_1, n1_2, n1_3, n1_4, n1_5⟩ := hC1.later hB_4
  have hlk1 := World.block_lt_of_cell? _ _ n1_0
  have hlX := WrT.lt hW_4
  go_wp2_with fail
  ((try simp only [Exit.inBlock, Exit.then]); first | refine bodyPost_end (results_none rfl _ _ _) rfl ?_ | refine bodyPost_ret (results_none rfl _ _ _) rfl ?_)
  exact ⟨rfl, hW_4.eq (by show _ = l0 ++ T.lin dep; rw [HTX.out]; try simp only [List.append_assoc, List.append_nil, List.nil_append, List.cons_append, List.singleton_append]), hK_4⟩
set_option maxHeartbeats 8000000 in
theorem wxen (D : Nat) (w0 : World) (X dep : Nat) (hdp : dep + (D + 1) ≤ 1000000) (hL : LOk D w0 X) (T : Nd) (hk : T.kind = 22) (hT : T.right = true) (t0 t1 : Nd) (hks : T.kids = [t0, t1]) (hq : ¬ t0.kind = 0) (htz : ¬ T.text.size = 0) (hD : T.depth ≤ D + 1) (hWt : T.weight ≤ 1000000) : FSays 87 w0 X dep (fun t => t.lin dep) T := by
  intro A c K d l0 w hN hBs hW hlen
  have hdm : dep ≤ 1000000 := by omega
  have HTE := Lib.hid (text_empty T.text)
  have et : T.text.toList.isEmpty = false := by rw [HTE.out]; simpa using htz
  have q0 : (t0.kind != 0) = true := by simp [hq]
  rw [exc_eq hk hks] at hT
  simp only [Bool.and_eq_true] at hT
  have r1 := hT.2.1.2
  have hlen3 : T.kids.length = 2 := by rw [hks]; rfl
  have r0 : Ex t0 := by
    rcases Bool.or_eq_true _ _ ▸ hT.2.1.1 with h | h
    · exact absurd (kind_none h) hq
    · exact ev_ex h
  have hg0 : T.kids[0]? = some t0 := by rw [hks]; rfl
  obtain ⟨b, off, A0, c0', K0, d0, hKe0, hC0, hN0⟩ := hN.kid hg0
  have hd0 : t0.depth ≤ D ∧ t0.weight ≤ 1000000 := within_kidsM hD hWt t0 (List.mem_of_getElem? hg0)
  have hg1 : T.kids[1]? = some t1 := by rw [hks]; rfl
  obtain ⟨b1, off1, A1, c1', K1, d1, hKe1, hC1, hN1⟩ := hN.kid hg1
  have hd1 : t1.depth ≤ D ∧ t1.weight ≤ 1000000 := within_kidsM hD hWt t1 (List.mem_of_getElem? hg1)
  rw [Nat.zero_mul, Nat.add_zero] at hC0
  subst hKe0
  injection hKe1 with e1
  injection e1 with e1 e2
  subst e1 e2
  rw [show 1 * 6 = 6 from rfl] at hC1
  have HF0 := Lib.hid (wExpr_ok w0 X dep D t0 r0 hd0.1 hd0.2)
  have HF1 := Lib.hid (wInner_ok D w0 X dep (by omega) hL t1 (blk_of r1) (by omega) hd1.2)
  have HN0 := Lib.hid hN0
  have i0 : (0 : Int) < (T.kids.length : Int) := by omega
  have i0' : 0 < T.kids.length := by omega
  have HN1 := Lib.hid hN1
  have i1 : (1 : Int) < (T.kids.length : Int) := by omega
  have i1' : 1 < T.kids.length := by omega
  have hlen : l0.length + (T.lin dep).length ≤ 1000000000000 := hlen
  have hts : T.lin dep = padL dep ++ [101, 120, 99, 101, 112, 116] ++ [32] ++ t0.txt ++ [32, 97, 115, 32] ++ tx T ++ [58, 10] ++ t1.lin (dep + 1) := by rw [lin_eq]; simp [linOf, hk, hks, kd, gy, maybeL, hq, htz]
  rw [hts] at hlen
  have HTX := Lib.hid hts
  have HLN := Lib.hid hlen
  obtain ⟨hm1, hm2, hrm, hw32, hk1, hk2, hk64, ha64, hts', hKs⟩ := hN.parts
  have hk2' := hk2
  unfold maxLen at hm2 hk2 hts'
  obtain ⟨hk64a, hk64b⟩ := hk64
  obtain ⟨ha64a, ha64b⟩ := ha64
  have hB0 : w0.heap.size ≤ w.heap.size := hBs.size
  have hbX : X < w.heap.size := WrT.lt hW
  have hK0 : WK w0.heap.size X w (w.alloc (.cells #[.int .i64 T.kind, .int .i64 T.pos, .string T.text, .bool T.neg, .slice A T.mag.length c, .slice (some ⟨b, off, none⟩) T.kids.length d] 27)) := (WK.refl _ _ _).alloc hB0 _
  have hWb := hW.alloc (.cells #[.int .i64 T.kind, .int .i64 T.pos, .string T.text, .bool T.neg, .slice A T.mag.length c, .slice (some ⟨b, off, none⟩) T.kids.length d] 27)
  have hBb : Below w0.heap.size w0 (w.alloc (.cells #[.int .i64 T.kind, .int .i64 T.pos, .string T.text, .bool T.neg, .slice A T.mag.length c, .slice (some ⟨b, off, none⟩) T.kids.length d] 27)) := hBs.trans hK0.b
  have hbx := heap_alloc_new w (.cells #[.int .i64 T.kind, .int .i64 T.pos, .string T.text, .bool T.neg, .slice A T.mag.length c, .slice (some ⟨b, off, none⟩) T.kids.length d] 27)
  have hsg : (w.alloc (.cells #[.int .i64 T.kind, .int .i64 T.pos, .string T.text, .bool T.neg, .slice A T.mag.length c, .slice (some ⟨b, off, none⟩) T.kids.length d] 27)).heap.size = w.heap.size + 1 := by simp
  clear hKs hN hlen hT hD hWt hrm hw32 hk hts hg0 hg1 hN0 hN1 hd0 hd1 r1 hks hlen3 hq htz hL r0
  obtain ⟨c0, c1, c2, c3, c4, c5⟩ := (cells_box hbx).box
  have hlb := World.block_lt_of_cell? _ _ c0
  obtain ⟨n0_0, n0_1, n0_2, n0_3, n0_4, n0_5⟩ := hC0.later hBb
  have hlk0 := World.block_lt_of_cell? _ _ n0_0
  obtain ⟨n1_0, n1_1, n1_2, n1_3, n1_4, n1_5⟩ := hC1.later hBb
  have hlk1 := World.block_lt_of_cell? _ _ n1_0
  have hlX := WrT.lt hWb
  unfold ndV
  go_enter Tryz.func87, Tryz.ntmps87
  go_wp2_with fail
  have hWa := hWb.alloc (.cells #[.string { data := #[101, 120, 99, 101, 112, 116] }] 9)
  have hKa := hK0.alloc (Nat.le_trans hB0 hK0.b.size) (.cells #[.string { data := #[101, 120, 99, 101, 112, 116] }] 9)
  have hbxa := (Lib.alloc_old _ (.cells #[.string { data := #[101, 120, 99, 101, 112, 116] }] 9) _ hlb).trans hbx
  have hlta : X < w.heap.size + 1 := (by have := WrT.lt hWb; rw [hsg] at this; exact this)
  go_at_call 80
  refine (wHead_ok w0.heap.size X dep _ ([101, 120, 99, 101, 112, 116]) [⟨#[101, 120, 99, 101, 112, 116]⟩] 1 _ _ hWa rfl (.inr ⟨w.heap.size + 1, rfl, by omega, (by rw [← hsg]; exact heap_alloc_new _ _)⟩) rfl (by decide) hdm (by have h := HLN.out; have hpl := padL_len dep; (try simp only [List.length_append, List.length_cons, List.length_nil, List.length_singleton] at h); (try simp only [List.length_append, List.length_cons, List.length_nil, List.length_singleton]); omega) (Nat.le_trans hB0 hKa.b.size)).mono ?_
  rintro e w_1 ⟨rfl, hW_1, hk_1⟩
  have hK_1 := hKa.trans hk_1
  have hbx := box_keep hk_1 hbxa hbX
  have hB_1 : Below w0.heap.size w0 w_1 := hBs.trans hK_1.b
  obtain ⟨c0, c1, c2, c3, c4, c5⟩ := (cells_box hbx).box
  have hlb := World.block_lt_of_cell? _ _ c0
  obtain ⟨n0_0, n0_1, n0_2, n0_3, n0_4, n0_5⟩ := hC0.later hB_1
  have hlk0 := World.block_lt_of_cell? _ _ n0_0
  obtain ⟨n1_0, n1_1, n1_2, n1_3, n1_4, n1_5⟩ := hC1.later hB_1
  have hlk1 := World.block_lt_of_cell? _ _ n1_0
  have hlX := WrT.lt hW_1
  go_wp2_with fail
  have hWa := hW_1.alloc (.cells #[.string { data := #[32] }] 9)
  have hKa := hK_1.alloc (Nat.le_trans hB0 hK_1.b.size) (.cells #[.string { data := #[32] }] 9)
  have hbxa := (Lib.alloc_old _ (.cells #[.string { data := #[32] }] 9) _ hlb).trans hbx
  go_at_call 84
  refine (wSayT_ok w0.heap.size X dep _ ([32]) [⟨#[32]⟩] 1 _ _ hWa rfl (WrT.lt hW_1) (heap_alloc_new _ _) rfl (by decide) (by have h := HLN.out; (try simp only [List.length_append, List.length_cons, List.length_nil, List.length_singleton] at h); (try simp only [List.length_append, List.length_cons, List.length_nil, List.length_singleton]); omega) (Nat.le_trans hB0 hKa.b.size)).mono ?_
  rintro e w_2 ⟨rfl, hW_2, hk_2⟩
  have hK_2 := hKa.trans hk_2
  have hbx := box_keep hk_2 hbxa hbX
  have hB_2 : Below w0.heap.size w0 w_2 := hBs.trans hK_2.b
  obtain ⟨c0, c1, c2, c3, c4, c5⟩ := (cells_box hbx).box
  have hlb := World.block_lt_of_cell? _ _ c0
  obtain ⟨n0_0, n0_1, n0_2, n0_3, n0_4, n0_5⟩ := hC0.later hB_2
  have hlk0 := World.block_lt_of_cell? _ _ n0_0
  obtain ⟨n1_0, n1_1, n1_2, n1_3, n1_4, n1_5⟩ := hC1.later hB_2
  have hlk1 := World.block_lt_of_cell? _ _ n1_0
  have hlX := WrT.lt hW_2
  go_wp2_with fail
  have hI := HF0.out A0 c0' K0 d0 _ _ HN0.out hB_2 hW_2 (by have h := HLN.out; (try simp only [List.length_append, List.length_cons, List.length_nil, List.length_singleton] at h); (try simp only [List.length_append, List.length_cons, List.length_nil, List.length_singleton]); omega)
  unfold ndV at hI
  go_at_call 81
  refine hI.mono ?_
  rintro e w_3 ⟨rfl, hW_3, hk_3⟩
  have hK_3 := hK_2.trans hk_3
  have hbx := box_keep hk_3 hbx hbX
  clear hI
  have hB_3 : Below w0.heap.size w0 w_3 := hBs.trans hK_3.b
  obtain ⟨c0, c1, c2, c3, c4, c5⟩ := (cells_box hbx).box
  have hlb := World.block_lt_of_cell? _ _ c0
  obtain ⟨n0_0, n0_1, n0_2, n0_3, n0_4, n0_5⟩ := hC0.later hB_3
  have hlk0 := World.block_lt_of_cell? _ _ n0_0
  obtain ⟨n1_0, n1_1, n1_2, n1_3, n1_4, n1_5⟩ := hC1.later hB_3
  have hlk1 := World.block_lt_of_cell? _ _ n1_0
  have hlX := WrT.lt hW_3
  go_wp2_with fail
  have hWa := hW_3.alloc (.cells #[.string { data := #[32, 97, 115, 32] }, .string (T.text)] 9)
  have hKa := hK_3.alloc (Nat.le_trans hB0 hK_3.b.size) (.cells #[.string { data := #[32, 97, 115, 32] }, .string (T.text)] 9)
  have hbxa := (Lib.alloc_old _ (.cells #[.string { data := #[32, 97, 115, 32] }, .string (T.text)] 9) _ hlb).trans hbx
  go_at_call 84
  refine (wSayT_ok w0.heap.size X dep _ ([32, 97, 115, 32] ++ tx T) [⟨#[32, 97, 115, 32]⟩, T.text] 2 _ _ hWa rfl (WrT.lt hW_3) (heap_alloc_new _ _) (by simp [tx]) (by decide) (by have h := HLN.out; (try simp only [List.length_append, List.length_cons, List.length_nil, List.length_singleton] at h); (try simp only [List.length_append, List.length_cons, List.length_nil, List.length_singleton]); omega) (Nat.le_trans hB0 hKa.b.size)).mono ?_
  rintro e w_4 ⟨rfl, hW_4, hk_4⟩
  have hK_4 := hKa.trans hk_4
  have hbx := box_keep hk_4 hbxa hbX
  have hB_4 : Below w0.heap.size w0 w_4 := hBs.trans hK_4.b
  obtain ⟨c0, c1, c2, c3, c4, c5⟩ := (cells_box hbx).box
  have hlb := World.block_lt_of_cell? _ _ c0
  obtain ⟨n0_0, n0_1, n0_2, n0_3, n0_4, n0_5⟩ := hC0.later hB_4
  have hlk0 := World.block_lt_of_cell? _ _ n0_0
  obtain ⟨n1_0, n1_1, n1_2, n1_3, n1_4, n1_5⟩ := hC1.later hB_4
  have hlk1 := World.block_lt_of_cell? _ _ n1_0
  have hlX := WrT.lt hW_4
  go_wp2_with fail
  have hI := HF1.out A1 c1' K1 d1 _ _ HN1.out hB_4 hW_4 (by have h := HLN.out; (try simp only [List.length_append, List.length_cons, List.length_nil, List.length_singleton] at h); (try simp only [List.length_append, List.length_cons, List.length_nil, List.length_singleton]); omega)
  unfold ndV at hI
  go_at_call 82
  refine hI.mono ?_
  rintro e w_5 ⟨rfl, hW_5, hk_5⟩
  have hK_5 := hK_4.trans hk_5
  have hbx := box_keep hk_5 hbx hbX
  clear hI
  have hB_5 : Below w0.heap.size w0 w_5 := hBs.trans hK_5.b
  obtain ⟨c0, c1, c2, c3, c4, c5⟩ := (cells_box hbx).box
  have hlb := World.block_lt_of_cell? _ _ c0
  obtain ⟨n0_0, n0_1, n0_2, n0_3, n0_4, n0_5⟩ := hC0.later hB_5
  have hlk0 := World.block_lt_of_cell? _ _ n0_0
  obtain ⟨n1_0, n1_1, n1_2, n1_3, n1_4, n1_5⟩ := hC1.later hB_5
  have hlk1 := World.block_lt_of_cell? _ _ n1_0
  have hlX := WrT.lt hW_5
  go_wp2_with fail
  ((try simp only [Exit.inBlock, Exit.then]); first | refine bodyPost_end (results_none rfl _ _ _) rfl ?_ | refine bodyPost_ret (results_none rfl _ _ _) rfl ?_)
  exact ⟨rfl, hW_5.eq (by show _ = l0 ++ T.lin dep; rw [HTX.out]; try simp only [List.append_assoc, List.append_nil, List.nil_append, List.cons_append, List.singleton_append]), hK_5⟩
theorem wExcept_ok (D : Nat) (w0 : World) (X dep : Nat) (hdp : dep + (D + 1) ≤ 1000000) (hL : LOk D w0 X) (T : Nd) (hk : T.kind = 22) (hT : T.right = true) (hD : T.depth ≤ D + 1) (hWt : T.weight ≤ 1000000) : FSays 87 w0 X dep (fun t => t.lin dep) T := by
  obtain ⟨t0, t1, hks⟩ := kids_2 (except_kids hk hT)
  by_cases hq : t0.kind = 0
  · by_cases htz : T.text.size = 0
    · exact wxzz D w0 X dep hdp hL T hk hT t0 t1 hks hq htz hD hWt
    · exfalso
      rw [exc_eq hk hks] at hT
      have e1 : (T.text.size == 0) = false := by simpa using htz
      rw [e1, hq] at hT
      simp at hT
  · by_cases htz : T.text.size = 0
    · exact wxez D w0 X dep hdp hL T hk hT t0 t1 hks hq htz hD hWt
    · exact wxen D w0 X dep hdp hL T hk hT t0 t1 hks hq htz hD hWt
end
section
set_option linter.unusedVariables false
set_option linter.unusedSimpArgs false
open Go.RowKit
set_option maxRecDepth 1000000
theorem params_all : ∀ (l : List Nd) (g : Bool), paramsB Nd.right g l = true → ∀ p ∈ l, p.kind = 19 ∧ p.right = true
  | [], _, _, p, hp => by simp at hp
  | a :: r, g, h, p, hp => by
    rw [paramsB] at h
    by_cases hb : (!(a.kind == 19) || !a.right) = true
    · rw [if_pos hb] at h; cases h
    · rw [if_neg hb] at h
      have ha : a.kind = 19 ∧ a.right = true := by
        simp only [Bool.or_eq_true, Bool.not_eq_true', not_or, beq_eq_false_iff_ne, ne_eq, Decidable.not_not, Bool.not_eq_false] at hb
        exact hb
      have hr : ∃ g', paramsB Nd.right g' r = true ∨ r = [] := by
        cases hks : a.kids with
        | nil => rw [hks] at h; exact ⟨true, .inr (List.isEmpty_iff.1 h)⟩
        | cons q s =>
          rw [hks] at h
          dsimp only at h
          split at h
          · exact ⟨true, .inl h⟩
          · split at h
            · cases h
            · exact ⟨g, .inl h⟩
      rcases List.mem_cons.1 hp with rfl | hp
      · exact ha
      · obtain ⟨g', hr | hr⟩ := hr
        · exact params_all r g' hr p hp
        · rw [hr] at hp; simp at hp
theorem catch_all : ∀ (l : List Nd), catchB Nd.right l = true → ∀ p ∈ l, p.kind = 22 ∧ p.right = true
  | [], _, p, hp => by simp at hp
  | a :: r, h, p, hp => by
    rw [catchB] at h
    simp only [Bool.and_eq_true, beq_iff_eq] at h
    rcases List.mem_cons.1 hp with rfl | hp
    · exact ⟨h.1.1.1, h.1.1.2⟩
    · exact catch_all r h.2 p hp
set_option maxHeartbeats 8000000 in
theorem wl18 (D : Nat) (w0 : World) (X dep : Nat) (hdp : dep + (D + 1) ≤ 1000000) (hL : LOk D w0 X) (T : Nd) (hk : T.kind = 18) (hT : St T) (hD : T.depth ≤ D + 1) (hWt : T.weight ≤ 1000000) : FSays 47 w0 X dep (fun t => t.lin dep) T := by
  intro A c K d l0 w hN hBs hW hlen
  have hdm : dep ≤ 1000000 := by omega
  have hst := (st_at hk (tx := .name) (fm := .dfn) rfl (by decide) (by decide) (by decide)).symm.trans hT
  have hdf : defL T.kids = true := (Bool.and_eq_true _ _ ▸ hst).2
  have h1 : 1 ≤ T.kids.length := by simp only [defL, Bool.and_eq_true, decide_eq_true_eq] at hdf; exact hdf.1.1
  obtain ⟨m, hm⟩ : ∃ m, T.kids.length = m + 1 := ⟨T.kids.length - 1, by omega⟩
  obtain ⟨tm, htm⟩ : ∃ t, T.kids[m]? = some t := ⟨_, List.getElem?_eq_getElem (by omega)⟩
  rw [def_at hm htm, Bool.and_eq_true] at hdf
  obtain ⟨hbl, hpar⟩ := hdf
  obtain ⟨b, off, Am, cm', Km, dm, hKem, hCm, hNm⟩ := hN.kid htm
  subst hKem
  have hdl : T.kids.dropLast = T.kids.take m := by rw [List.dropLast_eq_take, hm]; rfl
  have hdd := within_kidsM hD hWt tm (List.mem_of_getElem? htm)
  have HFm := Lib.hid (wInner_ok D w0 X dep (by omega) hL tm (blk_of hbl) (by omega) hdd.2)
  have HNm := Lib.hid hNm
  have HPA := Lib.hid (fun (p : Nd) (hp : p ∈ T.kids.take m) => wParam_ok D w0 X dep (wExpr_ok w0 X dep D) p (params_all _ _ hpar p hp).1 (params_all _ _ hpar p hp).2 (by have := (within_kidsM hD hWt p (List.mem_of_mem_take hp)).1; omega) (within_kidsM hD hWt p (List.mem_of_mem_take hp)).2)
  have hkd := hN.parts.2.2.2.2.1
  have hgm : gy (T.kids.map Nd.lin) (T.kids.length - 1) (dep + 1) = tm.lin (dep + 1) := by
    unfold gy
    rw [hm, Nat.add_sub_cancel]
    simp [List.getD, htm]
  have o1 : (T.kids.length : Int) - 1 = (m : Int) := by omega
  have o3 : (0 : Int) ≤ (m : Int) := by omega
  have o4 : (m : Int) ≤ (d : Int) := by omega
  have o5 : (m : Int) < (T.kids.length : Int) := by omega
  have o6 : m ≤ d := by omega
  have o7 : m < T.kids.length := by omega
  have HTK := Lib.hid (show (T.kids.take m).length = m by rw [List.length_take]; omega)
  have hlen : l0.length + (T.lin dep).length ≤ 1000000000000 := hlen
  have hts : T.lin dep = padL dep ++ [100, 101, 102, 32] ++ tx T ++ [40] ++ sepL com ((T.kids.take m).map parL) ++ [41] ++ [58, 10] ++ tm.lin (dep + 1) := by rw [lin_eq]; simp [linOf, hk, hdl, hgm]
  rw [hts] at hlen
  have HTX := Lib.hid hts
  have HLN := Lib.hid hlen
  have z15 : (T.kind == 15) = false := by rw [hk]; rfl
  have z16 : (T.kind == 16) = false := by rw [hk]; rfl
  have z17 : (T.kind == 17) = false := by rw [hk]; rfl
  have z18 : (T.kind == 18) = true := by rw [hk]; rfl
  have z20 : (T.kind == 20) = false := by rw [hk]; rfl
  have z21 : (T.kind == 21) = false := by rw [hk]; rfl
  obtain ⟨hm1, hm2, hrm, hw32, hk1, hk2, hk64, ha64, hts', hKs⟩ := hN.parts
  have hk2' := hk2
  unfold maxLen at hm2 hk2 hts'
  obtain ⟨hk64a, hk64b⟩ := hk64
  obtain ⟨ha64a, ha64b⟩ := ha64
  have hB0 : w0.heap.size ≤ w.heap.size := hBs.size
  have hbX : X < w.heap.size := WrT.lt hW
  have hK0 : WK w0.heap.size X w (w.alloc (.cells #[.int .i64 T.kind, .int .i64 T.pos, .string T.text, .bool T.neg, .slice A T.mag.length c, .slice (some ⟨b, off, none⟩) T.kids.length d] 27)) := (WK.refl _ _ _).alloc hB0 _
  have hWb := hW.alloc (.cells #[.int .i64 T.kind, .int .i64 T.pos, .string T.text, .bool T.neg, .slice A T.mag.length c, .slice (some ⟨b, off, none⟩) T.kids.length d] 27)
  have hBb : Below w0.heap.size w0 (w.alloc (.cells #[.int .i64 T.kind, .int .i64 T.pos, .string T.text, .bool T.neg, .slice A T.mag.length c, .slice (some ⟨b, off, none⟩) T.kids.length d] 27)) := hBs.trans hK0.b
  have hbx := heap_alloc_new w (.cells #[.int .i64 T.kind, .int .i64 T.pos, .string T.text, .bool T.neg, .slice A T.mag.length c, .slice (some ⟨b, off, none⟩) T.kids.length d] 27)
  have hsg : (w.alloc (.cells #[.int .i64 T.kind, .int .i64 T.pos, .string T.text, .bool T.neg, .slice A T.mag.length c, .slice (some ⟨b, off, none⟩) T.kids.length d] 27)).heap.size = w.heap.size + 1 := by simp
  have HKT := Lib.hid (hKs.take m)
  clear hKs hN hlen hT hD hWt hrm hw32 hk hts hst h1 hm htm hbl hpar hNm hdl hdd hgm hkd hL
  obtain ⟨c0, c1, c2, c3, c4, c5⟩ := (cells_box hbx).box
  have hlb := World.block_lt_of_cell? _ _ c0
  obtain ⟨nm_0, nm_1, nm_2, nm_3, nm_4, nm_5⟩ := hCm.later hBb
  have hlkm := World.block_lt_of_cell? _ _ nm_0
  have hlX := WrT.lt hWb
  unfold ndV
  go_enter Tryz.func47, Tryz.ntmps47
  go_wp2_with fail
  have hWa := hWb.alloc (.cells #[.string { data := #[100, 101, 102, 32] }, .string T.text, .string { data := #[40] }] 9)
  have hKa := hK0.alloc (Nat.le_trans hB0 hK0.b.size) (.cells #[.string { data := #[100, 101, 102, 32] }, .string T.text, .string { data := #[40] }] 9)
  have hbxa := (Lib.alloc_old _ (.cells #[.string { data := #[100, 101, 102, 32] }, .string T.text, .string { data := #[40] }] 9) _ hlb).trans hbx
  have hlta : X < w.heap.size + 1 := (by have := WrT.lt hWb; rw [hsg] at this; exact this)
  go_at_call 80
  refine (wHead_ok w0.heap.size X dep _ ([100, 101, 102, 32] ++ tx T ++ [40]) [⟨#[100, 101, 102, 32]⟩, T.text, ⟨#[40]⟩] 3 _ _ hWa rfl (.inr ⟨w.heap.size + 1, rfl, by omega, (by rw [← hsg]; exact heap_alloc_new _ _)⟩) (by simp [tx]) (by decide) hdm (by have h := HLN.out; have hpl := padL_len dep; (try simp only [List.length_append, List.length_cons, List.length_nil, List.length_singleton] at h); (try simp only [List.length_append, List.length_cons, List.length_nil, List.length_singleton]); omega) (Nat.le_trans hB0 hKa.b.size)).mono ?_
  rintro e w_1 ⟨rfl, hW_1, hk_1⟩
  have hK_1 := hKa.trans hk_1
  have hbx := box_keep hk_1 hbxa hbX
  have hB_1 : Below w0.heap.size w0 w_1 := hBs.trans hK_1.b
  obtain ⟨c0, c1, c2, c3, c4, c5⟩ := (cells_box hbx).box
  have hlb := World.block_lt_of_cell? _ _ c0
  obtain ⟨nm_0, nm_1, nm_2, nm_3, nm_4, nm_5⟩ := hCm.later hB_1
  have hlkm := World.block_lt_of_cell? _ _ nm_0
  have hlX := WrT.lt hW_1
  go_wp2_with fail
  have hI := wList_ok 86 run_param w0 X dep parL _ (T.kids.take m) m (some ⟨b, off, none⟩) d _ HTK.out HKT.out HPA.out o6 hk2' hB_1 hW_1 (by have h := HLN.out; (try simp only [List.length_append, List.length_cons, List.length_nil, List.length_singleton] at h); (try simp only [List.length_append, List.length_cons, List.length_nil, List.length_singleton]); omega)
  go_at_call 85
  refine hI.mono ?_
  rintro e w_2 ⟨rfl, hW_2, hk_2⟩
  have hK_2 := hK_1.trans hk_2
  have hbx := box_keep hk_2 hbx hbX
  clear hI
  have hB_2 : Below w0.heap.size w0 w_2 := hBs.trans hK_2.b
  obtain ⟨c0, c1, c2, c3, c4, c5⟩ := (cells_box hbx).box
  have hlb := World.block_lt_of_cell? _ _ c0
  obtain ⟨nm_0, nm_1, nm_2, nm_3, nm_4, nm_5⟩ := hCm.later hB_2
  have hlkm := World.block_lt_of_cell? _ _ nm_0
  have hlX := WrT.lt hW_2
  go_wp2_with fail
  have hWa := hW_2.alloc (.cells #[.string { data := #[41] }] 9)
  have hKa := hK_2.alloc (Nat.le_trans hB0 hK_2.b.size) (.cells #[.string { data := #[41] }] 9)
  have hbxa := (Lib.alloc_old _ (.cells #[.string { data := #[41] }] 9) _ hlb).trans hbx
  go_at_call 84
  refine (wSayT_ok w0.heap.size X dep _ ([41]) [⟨#[41]⟩] 1 _ _ hWa rfl (WrT.lt hW_2) (heap_alloc_new _ _) rfl (by decide) (by have h := HLN.out; (try simp only [List.length_append, List.length_cons, List.length_nil, List.length_singleton] at h); (try simp only [List.length_append, List.length_cons, List.length_nil, List.length_singleton]); omega) (Nat.le_trans hB0 hKa.b.size)).mono ?_
  rintro e w_3 ⟨rfl, hW_3, hk_3⟩
  have hK_3 := hKa.trans hk_3
  have hbx := box_keep hk_3 hbxa hbX
  have hB_3 : Below w0.heap.size w0 w_3 := hBs.trans hK_3.b
  obtain ⟨c0, c1, c2, c3, c4, c5⟩ := (cells_box hbx).box
  have hlb := World.block_lt_of_cell? _ _ c0
  obtain ⟨nm_0, nm_1, nm_2, nm_3, nm_4, nm_5⟩ := hCm.later hB_3
  have hlkm := World.block_lt_of_cell? _ _ nm_0
  have hlX := WrT.lt hW_3
  go_wp2_with fail
  have hI := HFm.out Am cm' Km dm _ _ HNm.out hB_3 hW_3 (by have h := HLN.out; (try simp only [List.length_append, List.length_cons, List.length_nil, List.length_singleton] at h); (try simp only [List.length_append, List.length_cons, List.length_nil, List.length_singleton]); omega)
  unfold ndV at hI
  go_at_call 82
  refine hI.mono ?_
  rintro e w_4 ⟨rfl, hW_4, hk_4⟩
  have hK_4 := hK_3.trans hk_4
  have hbx := box_keep hk_4 hbx hbX
  clear hI
  have hB_4 : Below w0.heap.size w0 w_4 := hBs.trans hK_4.b
  obtain ⟨c0, c1, c2, c3, c4, c5⟩ := (cells_box hbx).box
  have hlb := World.block_lt_of_cell? _ _ c0
  obtain ⟨nm_0, nm_1, nm_2, nm_3, nm_4, nm_5⟩ := hCm.later hB_4
  have hlkm := World.block_lt_of_cell? _ _ nm_0
  have hlX := WrT.lt hW_4
  go_wp2_with fail
  ((try simp only [Exit.inBlock, Exit.then]); first | refine bodyPost_end (results_none rfl _ _ _) rfl ?_ | refine bodyPost_ret (results_none rfl _ _ _) rfl ?_)
  exact ⟨rfl, hW_4.eq (by show _ = l0 ++ T.lin dep; rw [HTX.out]; try simp only [List.append_assoc, List.append_nil, List.nil_append, List.cons_append, List.singleton_append]), hK_4⟩
end
section
set_option linter.unusedVariables false
set_option linter.unusedSimpArgs false
open Go.RowKit
set_option maxRecDepth 1000000
set_option maxHeartbeats 8000000 in
theorem wl21 (D : Nat) (w0 : World) (X dep : Nat) (hdp : dep + (D + 1) ≤ 1000000) (hL : LOk D w0 X) (T : Nd) (hk : T.kind = 21) (hT : St T) (hD : T.depth ≤ D + 1) (hWt : T.weight ≤ 1000000) : FSays 47 w0 X dep (fun t => t.lin dep) T := by
  intro A c K d l0 w hN hBs hW hlen
  have hdm : dep ≤ 1000000 := by omega
  have hst := (st_at hk (tx := .non) (fm := .tri) rfl (by decide) (by decide) (by decide)).symm.trans hT
  have htr : tryL T.kids = true := (Bool.and_eq_true _ _ ▸ hst).2
  simp only [tryL, Bool.and_eq_true, decide_eq_true_eq] at htr
  obtain ⟨⟨h2, hbl⟩, hca⟩ := htr
  obtain ⟨t0, hg0⟩ : ∃ t0, T.kids[0]? = some t0 := ⟨_, List.getElem?_eq_getElem (by omega)⟩
  rw [take_one hg0] at hbl
  have hb0 : Sh.block.ev Nd.right t0 = true := by simpa using hbl
  obtain ⟨b, off, A0, c0', K0, d0, hKe0, hC0, hN0⟩ := hN.kid hg0
  rw [Nat.zero_mul, Nat.add_zero] at hC0
  subst hKe0
  have hdd := within_kidsM hD hWt t0 (List.mem_of_getElem? hg0)
  have HF0 := Lib.hid (wInner_ok D w0 X dep (by omega) hL t0 (blk_of hb0) (by omega) hdd.2)
  have HN0 := Lib.hid hN0
  have HXA := Lib.hid (fun (p : Nd) (hp : p ∈ T.kids.drop 1) => wExcept_ok D w0 X dep hdp hL p (catch_all _ hca p hp).1 (catch_all _ hca p hp).2 (by have := (within_kidsM hD hWt p (List.mem_of_mem_drop hp)).1; omega) (within_kidsM hD hWt p (List.mem_of_mem_drop hp)).2)
  have hkd := hN.parts.2.2.2.2.1
  have hgm : gy (T.kids.map Nd.lin) 0 (dep + 1) = t0.lin (dep + 1) := by
    unfold gy
    simp [List.getD, hg0]
  have i0 : (0 : Int) < (T.kids.length : Int) := by omega
  have i0' : 0 < T.kids.length := by omega
  have i1 : (1 : Int) ≤ (T.kids.length : Int) := by omega
  have i2 : (1 : Int) ≤ (d : Int) := by omega
  have i3 : (T.kids.length : Int) ≤ (d : Int) := by omega
  have i4 : ¬ d = 1 := by omega
  have hlen : l0.length + (T.lin dep).length ≤ 1000000000000 := hlen
  have hts : T.lin dep = padL dep ++ [116, 114, 121] ++ [58, 10] ++ t0.lin (dep + 1) ++ ((T.kids.drop 1).map Nd.lin).flatMap (fun y => y dep) := by rw [lin_eq]; simp [linOf, hk, hgm]
  rw [hts] at hlen
  have HTX := Lib.hid hts
  have HLN := Lib.hid hlen
  have z15 : (T.kind == 15) = false := by rw [hk]; rfl
  have z16 : (T.kind == 16) = false := by rw [hk]; rfl
  have z17 : (T.kind == 17) = false := by rw [hk]; rfl
  have z18 : (T.kind == 18) = false := by rw [hk]; rfl
  have z20 : (T.kind == 20) = false := by rw [hk]; rfl
  have z21 : (T.kind == 21) = true := by rw [hk]; rfl
  obtain ⟨hm1, hm2, hrm, hw32, hk1, hk2, hk64, ha64, hts', hKs⟩ := hN.parts
  have hk2' := hk2
  unfold maxLen at hm2 hk2 hts'
  obtain ⟨hk64a, hk64b⟩ := hk64
  obtain ⟨ha64a, ha64b⟩ := ha64
  have hB0 : w0.heap.size ≤ w.heap.size := hBs.size
  have hbX : X < w.heap.size := WrT.lt hW
  have hK0 : WK w0.heap.size X w (w.alloc (.cells #[.int .i64 T.kind, .int .i64 T.pos, .string T.text, .bool T.neg, .slice A T.mag.length c, .slice (some ⟨b, off, none⟩) T.kids.length d] 27)) := (WK.refl _ _ _).alloc hB0 _
  have hWb := hW.alloc (.cells #[.int .i64 T.kind, .int .i64 T.pos, .string T.text, .bool T.neg, .slice A T.mag.length c, .slice (some ⟨b, off, none⟩) T.kids.length d] 27)
  have hBb : Below w0.heap.size w0 (w.alloc (.cells #[.int .i64 T.kind, .int .i64 T.pos, .string T.text, .bool T.neg, .slice A T.mag.length c, .slice (some ⟨b, off, none⟩) T.kids.length d] 27)) := hBs.trans hK0.b
  have hbx := heap_alloc_new w (.cells #[.int .i64 T.kind, .int .i64 T.pos, .string T.text, .bool T.neg, .slice A T.mag.length c, .slice (some ⟨b, off, none⟩) T.kids.length d] 27)
  have hsg : (w.alloc (.cells #[.int .i64 T.kind, .int .i64 T.pos, .string T.text, .bool T.neg, .slice A T.mag.length c, .slice (some ⟨b, off, none⟩) T.kids.length d] 27)).heap.size = w.heap.size + 1 := by simp
  have HK := Lib.hid hKs
  clear hKs hN hlen hT hD hWt hrm hw32 hk hts hst h2 hbl hca hg0 hb0 hN0 hdd hgm hL
  obtain ⟨c0, c1, c2, c3, c4, c5⟩ := (cells_box hbx).box
  have hlb := World.block_lt_of_cell? _ _ c0
  obtain ⟨n0_0, n0_1, n0_2, n0_3, n0_4, n0_5⟩ := hC0.later hBb
  have hlk0 := World.block_lt_of_cell? _ _ n0_0
  have hlX := WrT.lt hWb
  unfold ndV
  go_enter Tryz.func47, Tryz.ntmps47
  go_wp2_with fail
  have hWa := hWb.alloc (.cells #[.string { data := #[116, 114, 121] }] 9)
  have hKa := hK0.alloc (Nat.le_trans hB0 hK0.b.size) (.cells #[.string { data := #[116, 114, 121] }] 9)
  have hbxa := (Lib.alloc_old _ (.cells #[.string { data := #[116, 114, 121] }] 9) _ hlb).trans hbx
  have hlta : X < w.heap.size + 1 := (by have := WrT.lt hWb; rw [hsg] at this; exact this)
  go_at_call 80
  refine (wHead_ok w0.heap.size X dep _ ([116, 114, 121]) [⟨#[116, 114, 121]⟩] 1 _ _ hWa rfl (.inr ⟨w.heap.size + 1, rfl, by omega, (by rw [← hsg]; exact heap_alloc_new _ _)⟩) rfl (by decide) hdm (by have h := HLN.out; have hpl := padL_len dep; (try simp only [List.length_append, List.length_cons, List.length_nil, List.length_singleton] at h); (try simp only [List.length_append, List.length_cons, List.length_nil, List.length_singleton]); omega) (Nat.le_trans hB0 hKa.b.size)).mono ?_
  rintro e w_1 ⟨rfl, hW_1, hk_1⟩
  have hK_1 := hKa.trans hk_1
  have hbx := box_keep hk_1 hbxa hbX
  have hB_1 : Below w0.heap.size w0 w_1 := hBs.trans hK_1.b
  obtain ⟨c0, c1, c2, c3, c4, c5⟩ := (cells_box hbx).box
  have hlb := World.block_lt_of_cell? _ _ c0
  obtain ⟨n0_0, n0_1, n0_2, n0_3, n0_4, n0_5⟩ := hC0.later hB_1
  have hlk0 := World.block_lt_of_cell? _ _ n0_0
  have hlX := WrT.lt hW_1
  go_wp2_with fail
  have hI := HF0.out A0 c0' K0 d0 _ _ HN0.out hB_1 hW_1 (by have h := HLN.out; (try simp only [List.length_append, List.length_cons, List.length_nil, List.length_singleton] at h); (try simp only [List.length_append, List.length_cons, List.length_nil, List.length_singleton]); omega)
  unfold ndV at hI
  go_at_call 82
  refine hI.mono ?_
  rintro e w_2 ⟨rfl, hW_2, hk_2⟩
  have hK_2 := hK_1.trans hk_2
  have hbx := box_keep hk_2 hbx hbX
  clear hI
  have hB_2 : Below w0.heap.size w0 w_2 := hBs.trans hK_2.b
  obtain ⟨c0, c1, c2, c3, c4, c5⟩ := (cells_box hbx).box
  have hlb := World.block_lt_of_cell? _ _ c0
  obtain ⟨n0_0, n0_1, n0_2, n0_3, n0_4, n0_5⟩ := hC0.later hB_2
  have hlk0 := World.block_lt_of_cell? _ _ n0_0
  have hlX := WrT.lt hW_2
  have HW7 := Lib.hid hW_2
  have HK7 := Lib.hid hK_2
  go_wp2_with fail
  go_loopw [153] (fun iv wr => ∃ k : Nat, iv = .int .i64 k ∧ k ≤ T.kids.length - 1 ∧ Hid (WrT w0.heap.size X dep (l0 ++ padL dep ++ [116, 114, 121] ++ [58, 10] ++ t0.lin (dep + 1) ++ (((T.kids.drop 1).take k).map Nd.lin).flatMap (fun y => y dep)) wr) ∧ Hid (WK w0.heap.size X w wr)) (fun iv _ => T.kids.length - 1 - (intOf iv).toNat)
  case atStart => exact ⟨0, rfl, Nat.zero_le _, Lib.hid (HW7.out.eq (by simp)), HK7⟩
  case round =>
    obtain ⟨k, rfl, hk, hR, hbr⟩ := hrel
    by_cases hkl : k < T.kids.length - 1
    · have u1 : decide ((k : Int) < ((T.kids.length - 1 : Nat) : Int)) = true := decide_eq_true (by omega)
      have u2 : decide (k < T.kids.length - 1) = true := decide_eq_true hkl
      have u3 : decide ((k : Int) < (T.kids.length : Int) - 1) = true := decide_eq_true (by omega)
      obtain ⟨t, ht⟩ : ∃ t, T.kids[k + 1]? = some t := ⟨_, List.getElem?_eq_getElem (by omega)⟩
      obtain ⟨b2, off2, A', c', K', d', hKe, hC, hNt⟩ := HK.out.kid ht
      injection hKe with hKe
      injection hKe with e1 e2
      subst e1 e2
      rw [Nat.zero_add, show off + (k + 1) * 6 = off + 6 + k * 6 by omega] at hC
      have hbw : Below w0.heap.size w0 wr := hBs.trans hbr.out.b
      obtain ⟨m0, m1, m2, m3, m4, m5⟩ := hC.later hbw
      have hbn := World.block_lt_of_cell? _ _ m0
      have hXw : X < wr.heap.size := hR.out.lt
      have htd : (T.kids.drop 1)[k]? = some t := by rw [List.getElem?_drop, show 1 + k = k + 1 by omega]; exact ht
      have hst := flat_lin_take htd dep
      have hle := flat_lin_le (T.kids.drop 1) (k + 1) dep
      have hbt := (Below.refl wr.heap.size wr).alloc (Nat.le_refl _) (.cells #[.int .i64 t.kind, .int .i64 t.pos, .string t.text, .bool t.neg, .slice A' t.mag.length c', .slice K' t.kids.length d'] 27)
      have hkt : WK w0.heap.size X wr (wr.alloc (.cells #[.int .i64 t.kind, .int .i64 t.pos, .string t.text, .bool t.neg, .slice A' t.mag.length c', .slice K' t.kids.length d'] 27)) := (WK.refl _ _ _).alloc hbw.size _
      have hRt := hR.out.alloc (.cells #[.int .i64 t.kind, .int .i64 t.pos, .string t.text, .bool t.neg, .slice A' t.mag.length c', .slice K' t.kids.length d'] 27)
      obtain ⟨z0, z1, z2, z3, z4, z5⟩ := (cells_box (heap_alloc_new wr (.cells #[.int .i64 t.kind, .int .i64 t.pos, .string t.text, .bool t.neg, .slice A' t.mag.length c', .slice K' t.kids.length d'] 27))).box
      have hI := HXA.out t (List.mem_of_getElem? htd) A' c' K' d' _ _ hNt (hbw.trans (hbt.mono hbw.size)) hRt (by have h := HLN.out; rw [hst, List.length_append] at hle; show _ + (t.lin dep).length ≤ _; (try simp only [List.length_append, List.length_cons, List.length_nil] at h); (try simp only [List.length_append, List.length_cons, List.length_nil]); omega)
      unfold ndV at hI
      have HST := Lib.hid hst
      have HKT := Lib.hid hkt
      clear hC hNt ht hst hle hbt hkt hRt hbw htd
      go_wp2_with fail
      go_at_call 87
      refine hI.mono ?_
      rintro e w3 ⟨rfl, hw3, hk3⟩
      clear hI
      go_wp2_with fail
      go_roundw
      case rel => exact ⟨k + 1, by go_num, by omega, Lib.hid (hw3.eq (by rw [HST.out, ← List.append_assoc])), Lib.hid (hbr.out.trans (HKT.out.trans hk3))⟩
      case measure => simp [intOf]; omega
    · have u1 : decide ((k : Int) < ((T.kids.length - 1 : Nat) : Int)) = false := decide_eq_false (by omega)
      have u2 : decide (k < T.kids.length - 1) = false := decide_eq_false hkl
      have u3 : decide ((k : Int) < (T.kids.length : Int) - 1) = false := decide_eq_false (by omega)
      have hR2 := hR.out
      rw [List.take_of_length_le (by rw [List.length_drop]; omega)] at hR2
      have HR2 := Lib.hid hR2
      clear hR2
      go_wp2_with fail
      ((try simp only [Exit.inBlock, Exit.then]); first | refine bodyPost_end (results_none rfl _ _ _) rfl ?_ | refine bodyPost_ret (results_none rfl _ _ _) rfl ?_)
      exact ⟨rfl, HR2.out.eq (by show _ = l0 ++ T.lin dep; rw [HTX.out]; simp only [List.append_assoc]), hbr.out⟩
end
section
set_option linter.unusedVariables false
set_option linter.unusedSimpArgs false
open Go.RowKit
set_option maxRecDepth 1000000
theorem wSimple_ok (D : Nat) (w0 : World) (X dep : Nat) (hdp : dep + (D + 1) ≤ 1000000) (T : Nd) (hT : St T) (hk : 3 ≤ T.kind ∧ T.kind ≤ 14) (hD : T.depth ≤ D + 1) (hWt : T.weight ≤ 1000000) : FSays 88 w0 X dep simpL T := by
  have : T.kind = 3 ∨ T.kind = 4 ∨ T.kind = 5 ∨ T.kind = 6 ∨ T.kind = 7 ∨ T.kind = 8 ∨ T.kind = 9 ∨ T.kind = 10 ∨ T.kind = 11 ∨ T.kind = 12 ∨ T.kind = 13 ∨ T.kind = 14 := by omega
  rcases this with hk | hk | hk | hk | hk | hk | hk | hk | hk | hk | hk | hk
  · exact ws3 D w0 X dep hdp T hk hT hD hWt
  · exact ws4 D w0 X dep hdp T hk hT hD hWt
  · exact ws5 D w0 X dep hdp T hk hT hD hWt
  · exact ws6 D w0 X dep hdp T hk hT hD hWt
  · exact ws7 D w0 X dep hdp T hk hT hD hWt
  · exact ws8 D w0 X dep hdp T hk hT hD hWt
  · exact ws9 D w0 X dep hdp T hk hT hD hWt
  · exact ws10 D w0 X dep hdp T hk hT hD hWt
  · exact ws11 D w0 X dep hdp T hk hT hD hWt
  · exact ws12 D w0 X dep hdp T hk hT hD hWt
  · exact ws13 D w0 X dep hdp T hk hT hD hWt
  · exact ws14 D w0 X dep hdp T hk hT hD hWt
theorem wLine_step (D : Nat) (w0 : World) (X : Nat) (hL : LOk D w0 X) : LOk (D + 1) w0 X := by
  intro dep hdp T hT hD hWt
  have hr : 3 ≤ T.kind ∧ T.kind ≤ 21 ∧ ¬ T.kind = 19 := by
    simp only [St, Sh.ev, Bool.and_eq_true, decide_eq_true_eq, Bool.not_eq_true', beq_eq_false_iff_ne, ne_eq] at hT
    exact ⟨hT.1.1.1, hT.1.1.2, hT.1.2⟩
  by_cases hs : T.kind ≤ 14
  · exact wl_simple D w0 X dep hdp T (wSimple_ok D w0 X dep hdp T hT ⟨hr.1, hs⟩ hD hWt) ⟨hr.1, hs⟩
  by_cases h15 : T.kind = 15
  · by_cases hq : ∀ t, T.kids[2]? = some t → t.kind = 0
    · exact wl15z D w0 X dep hdp hL T h15 hT hq hD hWt
    · refine wl15b D w0 X dep hdp hL T h15 hT (fun t ht h0 => hq (fun t' ht' => ?_)) hD hWt
      rw [ht] at ht'; injection ht' with e; rw [← e]; exact h0
  by_cases h16 : T.kind = 16
  · exact wl16 D w0 X dep hdp hL T h16 hT hD hWt
  by_cases h17 : T.kind = 17
  · exact wl17 D w0 X dep hdp hL T h17 hT hD hWt
  by_cases h18 : T.kind = 18
  · exact wl18 D w0 X dep hdp hL T h18 hT hD hWt
  by_cases h20 : T.kind = 20
  · by_cases hq : ∀ t, T.kids[0]? = some t → t.kind = 0
    · exact wl20z D w0 X dep hdp hL T h20 hT hq hD hWt
    · refine wl20e D w0 X dep hdp hL T h20 hT (fun t ht h0 => hq (fun t' ht' => ?_)) hD hWt
      rw [ht] at ht'; injection ht' with e; rw [← e]; exact h0
  exact wl21 D w0 X dep hdp hL T (by omega) hT hD hWt
theorem wLine_ok (w0 : World) (X : Nat) : ∀ D, LOk D w0 X := by
  intro D
  induction D with
  | zero => intro dep _ T _ hD; rw [T.depth_eq] at hD; omega
  | succ D ih => exact wLine_step D w0 X ih
end
end Go.Proofs.YtjefhdlncikhmaaGreatDoor
