/- Joined by a program: Wr4c, Wr4d, Wr4e. -/
import Derived.WalkKit
import Derived.Test.YtjefhdlncikhmaaGreatDoorShelf
import Derived.Test.YtjefhdlncikhmaaGreatDoorPB03
import Derived.Test.YtjefhdlncikhmaaGreatDoorPB10
import Derived.Test.YtjefhdlncikhmaaGreatDoorPB11
namespace Go.Proofs.YtjefhdlncikhmaaGreatDoor
section
set_option linter.unusedVariables false
set_option linter.unusedSimpArgs false
open Go.RowKit
set_option maxRecDepth 1000000
set_option maxHeartbeats 8000000 in
theorem we45 (D : Nat) (w0 : World) (X dep : Nat) (hE : EOk D w0 X dep) (hTg : TOk D w0 X dep) (T : Nd) (hk : T.kind = 45) (hT : Ex T) (hD : T.depth ≤ D + 1) (hWt : T.weight ≤ 1000000) : FSays 81 w0 X dep Nd.txt T := by
  intro A c K d l0 w hN hBs hW hlen
  have hts : T.txt = [40] ++ gl (T.kids.map Nd.txt) 0 ++ [32, 111, 114, 32] ++ gl (T.kids.map Nd.txt) 1 ++ [41] := by rw [txt_eq]; simp [txtOf, hk]
  have HTX := Lib.hid hts
  have HLN := Lib.hid (show l0.length + ([40] ++ gl (T.kids.map Nd.txt) 0 ++ [32, 111, 114, 32] ++ gl (T.kids.map Nd.txt) 1 ++ [41]).length ≤ 1000000000000 by rw [← hts]; exact hlen)
  have z31 : (T.kind == 31) = false := by rw [hk]; rfl
  have z34 : (T.kind == 34) = false := by rw [hk]; rfl
  have z32 : (T.kind == 32) = false := by rw [hk]; rfl
  have z33 : (T.kind == 33) = false := by rw [hk]; rfl
  have z35 : (T.kind == 35) = false := by rw [hk]; rfl
  have z36 : (T.kind == 36) = false := by rw [hk]; rfl
  have z37 : (T.kind == 37) = false := by rw [hk]; rfl
  have z38 : (T.kind == 38) = false := by rw [hk]; rfl
  have z41 : (T.kind == 41) = false := by rw [hk]; rfl
  have z42 : (T.kind == 42) = false := by rw [hk]; rfl
  have z43 : (T.kind == 43) = false := by rw [hk]; rfl
  have z45 : (T.kind == 45) = true := by rw [hk]; rfl
  have z46 : (T.kind == 46) = false := by rw [hk]; rfl
  have z48 : (T.kind == 48) = false := by rw [hk]; rfl
  have z49 : (T.kind == 49) = false := by rw [hk]; rfl
  obtain ⟨hm1, hm2, hrm, hw32, hk1, hk2, hk64, ha64, hts', hKs⟩ := hN.parts
  have hk2' := hk2
  unfold maxLen at hm2 hk2 hts'
  obtain ⟨hk64a, hk64b⟩ := hk64
  obtain ⟨ha64a, ha64b⟩ := ha64
  have hB0 : w0.heap.size ≤ w.heap.size := hBs.size
  have hbX : X < w.heap.size := WrT.lt hW
  have hK0 : WK w0.heap.size X w (w.alloc (.cells #[.int .i64 T.kind, .int .i64 T.pos, .string T.text, .bool T.neg, .slice A T.mag.length c, .slice K T.kids.length d] 27)) := (WK.refl _ _ _).alloc hB0 _
  have hWb := hW.alloc (.cells #[.int .i64 T.kind, .int .i64 T.pos, .string T.text, .bool T.neg, .slice A T.mag.length c, .slice K T.kids.length d] 27)
  have hBb : Below w0.heap.size w0 (w.alloc (.cells #[.int .i64 T.kind, .int .i64 T.pos, .string T.text, .bool T.neg, .slice A T.mag.length c, .slice K T.kids.length d] 27)) := hBs.trans hK0.b
  have hbx := heap_alloc_new w (.cells #[.int .i64 T.kind, .int .i64 T.pos, .string T.text, .bool T.neg, .slice A T.mag.length c, .slice K T.kids.length d] 27)
  have hsg : (w.alloc (.cells #[.int .i64 T.kind, .int .i64 T.pos, .string T.text, .bool T.neg, .slice A T.mag.length c, .slice K T.kids.length d] 27)).heap.size = w.heap.size + 1 := by simp
  have HFA := Lib.hid (fun (t : Nd) (ht : t ∈ T.kids) => hE t (ex_kids hT (by omega) (by omega) (by omega) t ht) (within_kidsM hD hWt t ht).1 (within_kidsM hD hWt t ht).2)
  have HKA := Lib.hid hKs
  have hl2 : T.kids.length = 2 := len_row hk hT.1 (tx := .non) (L := [.expr, .expr]) rfl (by decide)
  have HL2 := Lib.hid hl2
  clear hl2
  clear hKs hN hlen hE hTg hT hD hWt hrm hw32 hk hts 
  obtain ⟨c0, c1, c2, c3, c4, c5⟩ := (cells_box hbx).box
  have hlb := World.block_lt_of_cell? _ _ c0
  have hlX := WrT.lt hWb
  unfold ndV
  go_enter Tryz.func81, Tryz.ntmps81
  go_wp2_with fail
  have hI := wTwo_ok ⟨#[111, 114]⟩ T.kids T.kids.length K d w0 X dep _ _ rfl HL2.out HKA.out HFA.out hk1 hk2' hBb hWb _ rfl (by have h := HLN.out; (try simp only [List.length_append, List.length_cons, List.length_nil, List.length_singleton] at h); (try simp only [List.length_append, List.length_cons, List.length_nil, List.length_singleton]); omega)
  go_at_call 145
  refine hI.mono ?_
  rintro e w_1 ⟨rfl, hW_1, hk_1⟩
  have hK_1 := hK0.trans hk_1
  have hbx := box_keep hk_1 hbx hbX
  clear hI
  have hB_1 : Below w0.heap.size w0 w_1 := hBs.trans hK_1.b
  obtain ⟨c0, c1, c2, c3, c4, c5⟩ := (cells_box hbx).box
  have hlb := World.block_lt_of_cell? _ _ c0
  have hlX := WrT.lt hW_1
  go_wp2_with fail
  ((try simp only [Exit.inBlock, Exit.then]); first | refine bodyPost_end (results_none rfl _ _ _) rfl ?_ | refine bodyPost_ret (results_none rfl _ _ _) rfl ?_)
  exact ⟨rfl, hW_1.eq (by rw [HTX.out]; try simp only [List.append_assoc, List.append_nil, List.nil_append, List.cons_append, List.singleton_append]), hK_1⟩
set_option maxHeartbeats 8000000 in
theorem we46 (D : Nat) (w0 : World) (X dep : Nat) (hE : EOk D w0 X dep) (hTg : TOk D w0 X dep) (T : Nd) (hk : T.kind = 46) (hT : Ex T) (hD : T.depth ≤ D + 1) (hWt : T.weight ≤ 1000000) : FSays 81 w0 X dep Nd.txt T := by
  intro A c K d l0 w hN hBs hW hlen
  have hts : T.txt = [40] ++ gl (T.kids.map Nd.txt) 0 ++ [32, 97, 110, 100, 32] ++ gl (T.kids.map Nd.txt) 1 ++ [41] := by rw [txt_eq]; simp [txtOf, hk]
  have HTX := Lib.hid hts
  have HLN := Lib.hid (show l0.length + ([40] ++ gl (T.kids.map Nd.txt) 0 ++ [32, 97, 110, 100, 32] ++ gl (T.kids.map Nd.txt) 1 ++ [41]).length ≤ 1000000000000 by rw [← hts]; exact hlen)
  have z31 : (T.kind == 31) = false := by rw [hk]; rfl
  have z34 : (T.kind == 34) = false := by rw [hk]; rfl
  have z32 : (T.kind == 32) = false := by rw [hk]; rfl
  have z33 : (T.kind == 33) = false := by rw [hk]; rfl
  have z35 : (T.kind == 35) = false := by rw [hk]; rfl
  have z36 : (T.kind == 36) = false := by rw [hk]; rfl
  have z37 : (T.kind == 37) = false := by rw [hk]; rfl
  have z38 : (T.kind == 38) = false := by rw [hk]; rfl
  have z41 : (T.kind == 41) = false := by rw [hk]; rfl
  have z42 : (T.kind == 42) = false := by rw [hk]; rfl
  have z43 : (T.kind == 43) = false := by rw [hk]; rfl
  have z45 : (T.kind == 45) = false := by rw [hk]; rfl
  have z46 : (T.kind == 46) = true := by rw [hk]; rfl
  have z48 : (T.kind == 48) = false := by rw [hk]; rfl
  have z49 : (T.kind == 49) = false := by rw [hk]; rfl
  obtain ⟨hm1, hm2, hrm, hw32, hk1, hk2, hk64, ha64, hts', hKs⟩ := hN.parts
  have hk2' := hk2
  unfold maxLen at hm2 hk2 hts'
  obtain ⟨hk64a, hk64b⟩ := hk64
  obtain ⟨ha64a, ha64b⟩ := ha64
  have hB0 : w0.heap.size ≤ w.heap.size := hBs.size
  have hbX : X < w.heap.size := WrT.lt hW
  have hK0 : WK w0.heap.size X w (w.alloc (.cells #[.int .i64 T.kind, .int .i64 T.pos, .string T.text, .bool T.neg, .slice A T.mag.length c, .slice K T.kids.length d] 27)) := (WK.refl _ _ _).alloc hB0 _
  have hWb := hW.alloc (.cells #[.int .i64 T.kind, .int .i64 T.pos, .string T.text, .bool T.neg, .slice A T.mag.length c, .slice K T.kids.length d] 27)
  have hBb : Below w0.heap.size w0 (w.alloc (.cells #[.int .i64 T.kind, .int .i64 T.pos, .string T.text, .bool T.neg, .slice A T.mag.length c, .slice K T.kids.length d] 27)) := hBs.trans hK0.b
  have hbx := heap_alloc_new w (.cells #[.int .i64 T.kind, .int .i64 T.pos, .string T.text, .bool T.neg, .slice A T.mag.length c, .slice K T.kids.length d] 27)
  have hsg : (w.alloc (.cells #[.int .i64 T.kind, .int .i64 T.pos, .string T.text, .bool T.neg, .slice A T.mag.length c, .slice K T.kids.length d] 27)).heap.size = w.heap.size + 1 := by simp
  have HFA := Lib.hid (fun (t : Nd) (ht : t ∈ T.kids) => hE t (ex_kids hT (by omega) (by omega) (by omega) t ht) (within_kidsM hD hWt t ht).1 (within_kidsM hD hWt t ht).2)
  have HKA := Lib.hid hKs
  have hl2 : T.kids.length = 2 := len_row hk hT.1 (tx := .non) (L := [.expr, .expr]) rfl (by decide)
  have HL2 := Lib.hid hl2
  clear hl2
  clear hKs hN hlen hE hTg hT hD hWt hrm hw32 hk hts 
  obtain ⟨c0, c1, c2, c3, c4, c5⟩ := (cells_box hbx).box
  have hlb := World.block_lt_of_cell? _ _ c0
  have hlX := WrT.lt hWb
  unfold ndV
  go_enter Tryz.func81, Tryz.ntmps81
  go_wp2_with fail
  have hI := wTwo_ok ⟨#[97, 110, 100]⟩ T.kids T.kids.length K d w0 X dep _ _ rfl HL2.out HKA.out HFA.out hk1 hk2' hBb hWb _ rfl (by have h := HLN.out; (try simp only [List.length_append, List.length_cons, List.length_nil, List.length_singleton] at h); (try simp only [List.length_append, List.length_cons, List.length_nil, List.length_singleton]); omega)
  go_at_call 145
  refine hI.mono ?_
  rintro e w_1 ⟨rfl, hW_1, hk_1⟩
  have hK_1 := hK0.trans hk_1
  have hbx := box_keep hk_1 hbx hbX
  clear hI
  have hB_1 : Below w0.heap.size w0 w_1 := hBs.trans hK_1.b
  obtain ⟨c0, c1, c2, c3, c4, c5⟩ := (cells_box hbx).box
  have hlb := World.block_lt_of_cell? _ _ c0
  have hlX := WrT.lt hW_1
  go_wp2_with fail
  ((try simp only [Exit.inBlock, Exit.then]); first | refine bodyPost_end (results_none rfl _ _ _) rfl ?_ | refine bodyPost_ret (results_none rfl _ _ _) rfl ?_)
  exact ⟨rfl, hW_1.eq (by rw [HTX.out]; try simp only [List.append_assoc, List.append_nil, List.nil_append, List.cons_append, List.singleton_append]), hK_1⟩
set_option maxHeartbeats 8000000 in
theorem we48 (D : Nat) (w0 : World) (X dep : Nat) (hE : EOk D w0 X dep) (hTg : TOk D w0 X dep) (T : Nd) (hk : T.kind = 48) (hT : Ex T) (hD : T.depth ≤ D + 1) (hWt : T.weight ≤ 1000000) : FSays 81 w0 X dep Nd.txt T := by
  intro A c K d l0 w hN hBs hW hlen
  have hts : T.txt = [40] ++ gl (T.kids.map Nd.txt) 0 ++ [32] ++ T.text.data.toList ++ [32] ++ gl (T.kids.map Nd.txt) 1 ++ [41] := by rw [txt_eq]; simp [txtOf, hk, tx]
  have HTX := Lib.hid hts
  have HLN := Lib.hid (show l0.length + ([40] ++ gl (T.kids.map Nd.txt) 0 ++ [32] ++ T.text.data.toList ++ [32] ++ gl (T.kids.map Nd.txt) 1 ++ [41]).length ≤ 1000000000000 by rw [← hts]; exact hlen)
  have z31 : (T.kind == 31) = false := by rw [hk]; rfl
  have z34 : (T.kind == 34) = false := by rw [hk]; rfl
  have z32 : (T.kind == 32) = false := by rw [hk]; rfl
  have z33 : (T.kind == 33) = false := by rw [hk]; rfl
  have z35 : (T.kind == 35) = false := by rw [hk]; rfl
  have z36 : (T.kind == 36) = false := by rw [hk]; rfl
  have z37 : (T.kind == 37) = false := by rw [hk]; rfl
  have z38 : (T.kind == 38) = false := by rw [hk]; rfl
  have z41 : (T.kind == 41) = false := by rw [hk]; rfl
  have z42 : (T.kind == 42) = false := by rw [hk]; rfl
  have z43 : (T.kind == 43) = false := by rw [hk]; rfl
  have z45 : (T.kind == 45) = false := by rw [hk]; rfl
  have z46 : (T.kind == 46) = false := by rw [hk]; rfl
  have z48 : (T.kind == 48) = true := by rw [hk]; rfl
  have z49 : (T.kind == 49) = false := by rw [hk]; rfl
  obtain ⟨hm1, hm2, hrm, hw32, hk1, hk2, hk64, ha64, hts', hKs⟩ := hN.parts
  have hk2' := hk2
  unfold maxLen at hm2 hk2 hts'
  obtain ⟨hk64a, hk64b⟩ := hk64
  obtain ⟨ha64a, ha64b⟩ := ha64
  have hB0 : w0.heap.size ≤ w.heap.size := hBs.size
  have hbX : X < w.heap.size := WrT.lt hW
  have hK0 : WK w0.heap.size X w (w.alloc (.cells #[.int .i64 T.kind, .int .i64 T.pos, .string T.text, .bool T.neg, .slice A T.mag.length c, .slice K T.kids.length d] 27)) := (WK.refl _ _ _).alloc hB0 _
  have hWb := hW.alloc (.cells #[.int .i64 T.kind, .int .i64 T.pos, .string T.text, .bool T.neg, .slice A T.mag.length c, .slice K T.kids.length d] 27)
  have hBb : Below w0.heap.size w0 (w.alloc (.cells #[.int .i64 T.kind, .int .i64 T.pos, .string T.text, .bool T.neg, .slice A T.mag.length c, .slice K T.kids.length d] 27)) := hBs.trans hK0.b
  have hbx := heap_alloc_new w (.cells #[.int .i64 T.kind, .int .i64 T.pos, .string T.text, .bool T.neg, .slice A T.mag.length c, .slice K T.kids.length d] 27)
  have hsg : (w.alloc (.cells #[.int .i64 T.kind, .int .i64 T.pos, .string T.text, .bool T.neg, .slice A T.mag.length c, .slice K T.kids.length d] 27)).heap.size = w.heap.size + 1 := by simp
  have HFA := Lib.hid (fun (t : Nd) (ht : t ∈ T.kids) => hE t (ex_kids hT (by omega) (by omega) (by omega) t ht) (within_kidsM hD hWt t ht).1 (within_kidsM hD hWt t ht).2)
  have HKA := Lib.hid hKs
  have hl2 : T.kids.length = 2 := len_row hk hT.1 (tx := (.words compsL)) (L := [.expr, .expr]) rfl (by decide)
  have HL2 := Lib.hid hl2
  clear hl2
  clear hKs hN hlen hE hTg hT hD hWt hrm hw32 hk hts 
  obtain ⟨c0, c1, c2, c3, c4, c5⟩ := (cells_box hbx).box
  have hlb := World.block_lt_of_cell? _ _ c0
  have hlX := WrT.lt hWb
  unfold ndV
  go_enter Tryz.func81, Tryz.ntmps81
  go_wp2_with fail
  have hI := wTwo_ok T.text T.kids T.kids.length K d w0 X dep _ _ rfl HL2.out HKA.out HFA.out hk1 hk2' hBb hWb _ rfl (by have h := HLN.out; (try simp only [List.length_append, List.length_cons, List.length_nil, List.length_singleton] at h); (try simp only [List.length_append, List.length_cons, List.length_nil, List.length_singleton]); omega)
  go_at_call 145
  refine hI.mono ?_
  rintro e w_1 ⟨rfl, hW_1, hk_1⟩
  have hK_1 := hK0.trans hk_1
  have hbx := box_keep hk_1 hbx hbX
  clear hI
  have hB_1 : Below w0.heap.size w0 w_1 := hBs.trans hK_1.b
  obtain ⟨c0, c1, c2, c3, c4, c5⟩ := (cells_box hbx).box
  have hlb := World.block_lt_of_cell? _ _ c0
  have hlX := WrT.lt hW_1
  go_wp2_with fail
  ((try simp only [Exit.inBlock, Exit.then]); first | refine bodyPost_end (results_none rfl _ _ _) rfl ?_ | refine bodyPost_ret (results_none rfl _ _ _) rfl ?_)
  exact ⟨rfl, hW_1.eq (by rw [HTX.out]; try simp only [List.append_assoc, List.append_nil, List.nil_append, List.cons_append, List.singleton_append]), hK_1⟩
set_option maxHeartbeats 8000000 in
theorem we49 (D : Nat) (w0 : World) (X dep : Nat) (hE : EOk D w0 X dep) (hTg : TOk D w0 X dep) (T : Nd) (hk : T.kind = 49) (hT : Ex T) (hD : T.depth ≤ D + 1) (hWt : T.weight ≤ 1000000) : FSays 81 w0 X dep Nd.txt T := by
  intro A c K d l0 w hN hBs hW hlen
  have hts : T.txt = [40] ++ gl (T.kids.map Nd.txt) 0 ++ [32] ++ T.text.data.toList ++ [32] ++ gl (T.kids.map Nd.txt) 1 ++ [41] := by rw [txt_eq]; simp [txtOf, hk, tx]
  have HTX := Lib.hid hts
  have HLN := Lib.hid (show l0.length + ([40] ++ gl (T.kids.map Nd.txt) 0 ++ [32] ++ T.text.data.toList ++ [32] ++ gl (T.kids.map Nd.txt) 1 ++ [41]).length ≤ 1000000000000 by rw [← hts]; exact hlen)
  have z31 : (T.kind == 31) = false := by rw [hk]; rfl
  have z34 : (T.kind == 34) = false := by rw [hk]; rfl
  have z32 : (T.kind == 32) = false := by rw [hk]; rfl
  have z33 : (T.kind == 33) = false := by rw [hk]; rfl
  have z35 : (T.kind == 35) = false := by rw [hk]; rfl
  have z36 : (T.kind == 36) = false := by rw [hk]; rfl
  have z37 : (T.kind == 37) = false := by rw [hk]; rfl
  have z38 : (T.kind == 38) = false := by rw [hk]; rfl
  have z41 : (T.kind == 41) = false := by rw [hk]; rfl
  have z42 : (T.kind == 42) = false := by rw [hk]; rfl
  have z43 : (T.kind == 43) = false := by rw [hk]; rfl
  have z45 : (T.kind == 45) = false := by rw [hk]; rfl
  have z46 : (T.kind == 46) = false := by rw [hk]; rfl
  have z48 : (T.kind == 48) = false := by rw [hk]; rfl
  have z49 : (T.kind == 49) = true := by rw [hk]; rfl
  obtain ⟨hm1, hm2, hrm, hw32, hk1, hk2, hk64, ha64, hts', hKs⟩ := hN.parts
  have hk2' := hk2
  unfold maxLen at hm2 hk2 hts'
  obtain ⟨hk64a, hk64b⟩ := hk64
  obtain ⟨ha64a, ha64b⟩ := ha64
  have hB0 : w0.heap.size ≤ w.heap.size := hBs.size
  have hbX : X < w.heap.size := WrT.lt hW
  have hK0 : WK w0.heap.size X w (w.alloc (.cells #[.int .i64 T.kind, .int .i64 T.pos, .string T.text, .bool T.neg, .slice A T.mag.length c, .slice K T.kids.length d] 27)) := (WK.refl _ _ _).alloc hB0 _
  have hWb := hW.alloc (.cells #[.int .i64 T.kind, .int .i64 T.pos, .string T.text, .bool T.neg, .slice A T.mag.length c, .slice K T.kids.length d] 27)
  have hBb : Below w0.heap.size w0 (w.alloc (.cells #[.int .i64 T.kind, .int .i64 T.pos, .string T.text, .bool T.neg, .slice A T.mag.length c, .slice K T.kids.length d] 27)) := hBs.trans hK0.b
  have hbx := heap_alloc_new w (.cells #[.int .i64 T.kind, .int .i64 T.pos, .string T.text, .bool T.neg, .slice A T.mag.length c, .slice K T.kids.length d] 27)
  have hsg : (w.alloc (.cells #[.int .i64 T.kind, .int .i64 T.pos, .string T.text, .bool T.neg, .slice A T.mag.length c, .slice K T.kids.length d] 27)).heap.size = w.heap.size + 1 := by simp
  have HFA := Lib.hid (fun (t : Nd) (ht : t ∈ T.kids) => hE t (ex_kids hT (by omega) (by omega) (by omega) t ht) (within_kidsM hD hWt t ht).1 (within_kidsM hD hWt t ht).2)
  have HKA := Lib.hid hKs
  have hl2 : T.kids.length = 2 := len_row hk hT.1 (tx := (.words signsL)) (L := [.expr, .expr]) rfl (by decide)
  have HL2 := Lib.hid hl2
  clear hl2
  clear hKs hN hlen hE hTg hT hD hWt hrm hw32 hk hts 
  obtain ⟨c0, c1, c2, c3, c4, c5⟩ := (cells_box hbx).box
  have hlb := World.block_lt_of_cell? _ _ c0
  have hlX := WrT.lt hWb
  unfold ndV
  go_enter Tryz.func81, Tryz.ntmps81
  go_wp2_with fail
  have hI := wTwo_ok T.text T.kids T.kids.length K d w0 X dep _ _ rfl HL2.out HKA.out HFA.out hk1 hk2' hBb hWb _ rfl (by have h := HLN.out; (try simp only [List.length_append, List.length_cons, List.length_nil, List.length_singleton] at h); (try simp only [List.length_append, List.length_cons, List.length_nil, List.length_singleton]); omega)
  go_at_call 145
  refine hI.mono ?_
  rintro e w_1 ⟨rfl, hW_1, hk_1⟩
  have hK_1 := hK0.trans hk_1
  have hbx := box_keep hk_1 hbx hbX
  clear hI
  have hB_1 : Below w0.heap.size w0 w_1 := hBs.trans hK_1.b
  obtain ⟨c0, c1, c2, c3, c4, c5⟩ := (cells_box hbx).box
  have hlb := World.block_lt_of_cell? _ _ c0
  have hlX := WrT.lt hW_1
  go_wp2_with fail
  ((try simp only [Exit.inBlock, Exit.then]); first | refine bodyPost_end (results_none rfl _ _ _) rfl ?_ | refine bodyPost_ret (results_none rfl _ _ _) rfl ?_)
  exact ⟨rfl, hW_1.eq (by rw [HTX.out]; try simp only [List.append_assoc, List.append_nil, List.nil_append, List.cons_append, List.singleton_append]), hK_1⟩
end
section
set_option linter.unusedVariables false
set_option linter.unusedSimpArgs false
open Go.RowKit
set_option maxRecDepth 1000000
set_option maxHeartbeats 8000000 in
theorem wp39 (D : Nat) (w0 : World) (X dep : Nat) (hE : EOk D w0 X dep) (hTg : TOk D w0 X dep) (T : Nd) (hk : T.kind = 39) (hT : Ex T) (hD : T.depth ≤ D + 1) (hWt : T.weight ≤ 1000000) : FSays 146 w0 X dep Nd.txt T := by
  intro A c K d l0 w hN hBs hW hlen
  have hlen3 : T.kids.length = 2 := len_row hk hT.1 (tx := .non) (L := [.expr, .expr]) rfl (by decide)
  obtain ⟨t0, t1, hks⟩ := kids_2 (l := T.kids) hlen3
  have hg0 : T.kids[0]? = some t0 := by rw [hks]; rfl
  obtain ⟨b, off, A0, c0', K0, d0, hKe0, hC0, hN0⟩ := hN.kid hg0
  have hg1 : T.kids[1]? = some t1 := by rw [hks]; rfl
  obtain ⟨b1, off1, A1, c1', K1, d1, hKe1, hC1, hN1⟩ := hN.kid hg1
  rw [Nat.zero_mul, Nat.add_zero] at hC0
  subst hKe0
  injection hKe1 with e1
  injection e1 with e1 e2
  subst e1 e2
  rw [show 1 * 6 = 6 from rfl] at hC1
  have hd0 : t0.depth ≤ D ∧ t0.weight ≤ 1000000 := within_kidsM hD hWt t0 (List.mem_of_getElem? hg0)
  have HF0 := Lib.hid (hE t0 (ex_kids hT (by omega) (by omega) (by omega) t0 (List.mem_of_getElem? hg0)) hd0.1 hd0.2)
  have HN0 := Lib.hid hN0
  have i0 : (0 : Int) < (T.kids.length : Int) := by omega
  have i0' : 0 < T.kids.length := by omega
  have hd1 : t1.depth ≤ D ∧ t1.weight ≤ 1000000 := within_kidsM hD hWt t1 (List.mem_of_getElem? hg1)
  have HF1 := Lib.hid (hE t1 (ex_kids hT (by omega) (by omega) (by omega) t1 (List.mem_of_getElem? hg1)) hd1.1 hd1.2)
  have HN1 := Lib.hid hN1
  have i1 : (1 : Int) < (T.kids.length : Int) := by omega
  have i1' : 1 < T.kids.length := by omega
  have hts : T.txt = t0.txt ++ [58, 32] ++ t1.txt := by rw [txt_eq, hks]; simp [txtOf, hk, gl]
  have HTX := Lib.hid hts
  have HLN := Lib.hid (show l0.length + (t0.txt ++ [58, 32] ++ t1.txt).length ≤ 1000000000000 by rw [← hts]; exact hlen)
  have z39 : (T.kind == 39) = true := by rw [hk]; rfl
  have z40 : (T.kind == 40) = false := by rw [hk]; rfl
  have z52 : (T.kind == 52) = false := by rw [hk]; rfl
  have z44 : (T.kind == 44) = false := by rw [hk]; rfl
  have z47 : (T.kind == 47) = false := by rw [hk]; rfl
  have z50 : (T.kind == 50) = false := by rw [hk]; rfl
  have z51 : (T.kind == 51) = false := by rw [hk]; rfl
  have z53 : (T.kind == 53) = false := by rw [hk]; rfl
  have z54 : (T.kind == 54) = false := by rw [hk]; rfl
  obtain ⟨hm1, hm2, hrm, hw32, hk1, hk2, hk64, ha64, hts', hKs⟩ := hN.parts
  have hk2' := hk2
  unfold maxLen at hm2 hk2 hts'
  obtain ⟨hk64a, hk64b⟩ := hk64
  obtain ⟨ha64a, ha64b⟩ := ha64
  have hB0 : w0.heap.size ≤ w.heap.size := hBs.size
  have hbX : X < w.heap.size := WrT.lt hW
  have hK0 : WK w0.heap.size X w (w.alloc (.cells #[.int .i64 T.kind, .int .i64 T.pos, .string T.text, .bool T.neg, .slice A T.mag.length c, .slice (some ⟨b, off, none⟩) T.kids.length d] 27)) := (WK.refl _ _ _).alloc hB0 _
  have hWb := hW.alloc (.cells #[.int .i64 T.kind, .int .i64 T.pos, .string T.text, .bool T.neg, .slice A T.mag.length c, .slice (some ⟨b, off, none⟩) T.kids.length d] 27)
  have hBb : Below w0.heap.size w0 (w.alloc (.cells #[.int .i64 T.kind, .int .i64 T.pos, .string T.text, .bool T.neg, .slice A T.mag.length c, .slice (some ⟨b, off, none⟩) T.kids.length d] 27)) := hBs.trans hK0.b
  have hbx := heap_alloc_new w (.cells #[.int .i64 T.kind, .int .i64 T.pos, .string T.text, .bool T.neg, .slice A T.mag.length c, .slice (some ⟨b, off, none⟩) T.kids.length d] 27)
  have hsg : (w.alloc (.cells #[.int .i64 T.kind, .int .i64 T.pos, .string T.text, .bool T.neg, .slice A T.mag.length c, .slice (some ⟨b, off, none⟩) T.kids.length d] 27)).heap.size = w.heap.size + 1 := by simp
  clear hKs hN hlen hE hTg hT hD hWt hrm hw32 hk hts hks hlen3 hg0 hN0 hd0 hg1 hN1 hd1
  obtain ⟨c0, c1, c2, c3, c4, c5⟩ := (cells_box hbx).box
  have hlb := World.block_lt_of_cell? _ _ c0
  obtain ⟨n0_0, n0_1, n0_2, n0_3, n0_4, n0_5⟩ := hC0.later hBb
  have hlk0 := World.block_lt_of_cell? _ _ n0_0
  obtain ⟨n1_0, n1_1, n1_2, n1_3, n1_4, n1_5⟩ := hC1.later hBb
  have hlk1 := World.block_lt_of_cell? _ _ n1_0
  have hlX := WrT.lt hWb
  unfold ndV
  go_enter Tryz.func146, Tryz.ntmps146
  go_wp2_with fail
  have hI := HF0.out A0 c0' K0 d0 _ _ HN0.out hBb hWb (by have h := HLN.out; (try simp only [List.length_append, List.length_cons, List.length_nil, List.length_singleton] at h); (try simp only [List.length_append, List.length_cons, List.length_nil, List.length_singleton]); omega)
  unfold ndV at hI
  go_at_call 81
  refine hI.mono ?_
  rintro e w_1 ⟨rfl, hW_1, hk_1⟩
  have hK_1 := hK0.trans hk_1
  have hbx := box_keep hk_1 hbx hbX
  clear hI
  have hB_1 : Below w0.heap.size w0 w_1 := hBs.trans hK_1.b
  obtain ⟨c0, c1, c2, c3, c4, c5⟩ := (cells_box hbx).box
  have hlb := World.block_lt_of_cell? _ _ c0
  obtain ⟨n0_0, n0_1, n0_2, n0_3, n0_4, n0_5⟩ := hC0.later hB_1
  have hlk0 := World.block_lt_of_cell? _ _ n0_0
  obtain ⟨n1_0, n1_1, n1_2, n1_3, n1_4, n1_5⟩ := hC1.later hB_1
  have hlk1 := World.block_lt_of_cell? _ _ n1_0
  have hlX := WrT.lt hW_1
  go_wp2_with fail
  have hWa := hW_1.alloc (.cells #[.string { data := #[58, 32] }] 9)
  have hKa := hK_1.alloc (Nat.le_trans hB0 hK_1.b.size) (.cells #[.string { data := #[58, 32] }] 9)
  have hbxa := (Lib.alloc_old _ (.cells #[.string { data := #[58, 32] }] 9) _ hlb).trans hbx
  go_at_call 84
  refine (wSayT_ok w0.heap.size X dep _ ([58, 32]) [⟨#[58, 32]⟩] 1 _ _ hWa rfl (WrT.lt hW_1) (heap_alloc_new _ _) rfl (by decide) (by have h := HLN.out; (try simp only [List.length_append, List.length_cons, List.length_nil, List.length_singleton] at h); (try simp only [List.length_append, List.length_cons, List.length_nil, List.length_singleton]); omega) (Nat.le_trans hB0 hKa.b.size)).mono ?_
  rintro e w_2 ⟨rfl, hW_2, hk_2⟩
  have hK_2 := hKa.trans hk_2
  have hbx := box_keep hk_2 hbxa hbX
  have hB_2 : Below w0.heap.size w0 w_2 := hBs.trans hK_2.b
  obtain ⟨c0, c1, c2, c3, c4, c5⟩ := (cells_box hbx).box
  have hlb := World.block_lt_of_cell? _ _ c0
  obtain ⟨n0_0, n0_1, n0_2, n0_3, n0_4, n0_5⟩ := hC0.later hB_2
  have hlk0 := World.block_lt_of_cell? _ _ n0_0
  obtain ⟨n1_0, n1_1, n1_2, n1_3, n1_4, n1_5⟩ := hC1.later hB_2
  have hlk1 := World.block_lt_of_cell? _ _ n1_0
  have hlX := WrT.lt hW_2
  go_wp2_with fail
  have hI := HF1.out A1 c1' K1 d1 _ _ HN1.out hB_2 hW_2 (by have h := HLN.out; (try simp only [List.length_append, List.length_cons, List.length_nil, List.length_singleton] at h); (try simp only [List.length_append, List.length_cons, List.length_nil, List.length_singleton]); omega)
  unfold ndV at hI
  go_at_call 81
  refine hI.mono ?_
  rintro e w_3 ⟨rfl, hW_3, hk_3⟩
  have hK_3 := hK_2.trans hk_3
  have hbx := box_keep hk_3 hbx hbX
  clear hI
  have hB_3 : Below w0.heap.size w0 w_3 := hBs.trans hK_3.b
  obtain ⟨c0, c1, c2, c3, c4, c5⟩ := (cells_box hbx).box
  have hlb := World.block_lt_of_cell? _ _ c0
  obtain ⟨n0_0, n0_1, n0_2, n0_3, n0_4, n0_5⟩ := hC0.later hB_3
  have hlk0 := World.block_lt_of_cell? _ _ n0_0
  obtain ⟨n1_0, n1_1, n1_2, n1_3, n1_4, n1_5⟩ := hC1.later hB_3
  have hlk1 := World.block_lt_of_cell? _ _ n1_0
  have hlX := WrT.lt hW_3
  go_wp2_with fail
  ((try simp only [Exit.inBlock, Exit.then]); first | refine bodyPost_end (results_none rfl _ _ _) rfl ?_ | refine bodyPost_ret (results_none rfl _ _ _) rfl ?_)
  exact ⟨rfl, hW_3.eq (by rw [HTX.out]; try simp only [List.append_assoc, List.append_nil, List.nil_append, List.cons_append, List.singleton_append]), hK_3⟩
set_option maxHeartbeats 8000000 in
theorem wp40 (D : Nat) (w0 : World) (X dep : Nat) (hE : EOk D w0 X dep) (hTg : TOk D w0 X dep) (T : Nd) (hk : T.kind = 40) (hT : Ex T) (hD : T.depth ≤ D + 1) (hWt : T.weight ≤ 1000000) : FSays 146 w0 X dep Nd.txt T := by
  intro A c K d l0 w hN hBs hW hlen
  have hlen3 : T.kids.length = 1 := len_row hk hT.1 (tx := .non) (L := [.expr]) rfl (by decide)
  obtain ⟨t0, hks⟩ := kids_1 (l := T.kids) hlen3
  have hg0 : T.kids[0]? = some t0 := by rw [hks]; rfl
  obtain ⟨b, off, A0, c0', K0, d0, hKe0, hC0, hN0⟩ := hN.kid hg0
  rw [Nat.zero_mul, Nat.add_zero] at hC0
  subst hKe0
  have hd0 : t0.depth ≤ D ∧ t0.weight ≤ 1000000 := within_kidsM hD hWt t0 (List.mem_of_getElem? hg0)
  have HF0 := Lib.hid (hE t0 (ex_kids hT (by omega) (by omega) (by omega) t0 (List.mem_of_getElem? hg0)) hd0.1 hd0.2)
  have HN0 := Lib.hid hN0
  have i0 : (0 : Int) < (T.kids.length : Int) := by omega
  have i0' : 0 < T.kids.length := by omega
  have hts : T.txt = [42, 42] ++ t0.txt := by rw [txt_eq, hks]; simp [txtOf, hk, gl]
  have HTX := Lib.hid hts
  have HLN := Lib.hid (show l0.length + ([42, 42] ++ t0.txt).length ≤ 1000000000000 by rw [← hts]; exact hlen)
  have z39 : (T.kind == 39) = false := by rw [hk]; rfl
  have z40 : (T.kind == 40) = true := by rw [hk]; rfl
  have z52 : (T.kind == 52) = false := by rw [hk]; rfl
  have z44 : (T.kind == 44) = false := by rw [hk]; rfl
  have z47 : (T.kind == 47) = false := by rw [hk]; rfl
  have z50 : (T.kind == 50) = false := by rw [hk]; rfl
  have z51 : (T.kind == 51) = false := by rw [hk]; rfl
  have z53 : (T.kind == 53) = false := by rw [hk]; rfl
  have z54 : (T.kind == 54) = false := by rw [hk]; rfl
  obtain ⟨hm1, hm2, hrm, hw32, hk1, hk2, hk64, ha64, hts', hKs⟩ := hN.parts
  have hk2' := hk2
  unfold maxLen at hm2 hk2 hts'
  obtain ⟨hk64a, hk64b⟩ := hk64
  obtain ⟨ha64a, ha64b⟩ := ha64
  have hB0 : w0.heap.size ≤ w.heap.size := hBs.size
  have hbX : X < w.heap.size := WrT.lt hW
  have hK0 : WK w0.heap.size X w (w.alloc (.cells #[.int .i64 T.kind, .int .i64 T.pos, .string T.text, .bool T.neg, .slice A T.mag.length c, .slice (some ⟨b, off, none⟩) T.kids.length d] 27)) := (WK.refl _ _ _).alloc hB0 _
  have hWb := hW.alloc (.cells #[.int .i64 T.kind, .int .i64 T.pos, .string T.text, .bool T.neg, .slice A T.mag.length c, .slice (some ⟨b, off, none⟩) T.kids.length d] 27)
  have hBb : Below w0.heap.size w0 (w.alloc (.cells #[.int .i64 T.kind, .int .i64 T.pos, .string T.text, .bool T.neg, .slice A T.mag.length c, .slice (some ⟨b, off, none⟩) T.kids.length d] 27)) := hBs.trans hK0.b
  have hbx := heap_alloc_new w (.cells #[.int .i64 T.kind, .int .i64 T.pos, .string T.text, .bool T.neg, .slice A T.mag.length c, .slice (some ⟨b, off, none⟩) T.kids.length d] 27)
  have hsg : (w.alloc (.cells #[.int .i64 T.kind, .int .i64 T.pos, .string T.text, .bool T.neg, .slice A T.mag.length c, .slice (some ⟨b, off, none⟩) T.kids.length d] 27)).heap.size = w.heap.size + 1 := by simp
  clear hKs hN hlen hE hTg hT hD hWt hrm hw32 hk hts hks hlen3 hg0 hN0 hd0
  obtain ⟨c0, c1, c2, c3, c4, c5⟩ := (cells_box hbx).box
  have hlb := World.block_lt_of_cell? _ _ c0
  obtain ⟨n0_0, n0_1, n0_2, n0_3, n0_4, n0_5⟩ := hC0.later hBb
  have hlk0 := World.block_lt_of_cell? _ _ n0_0
  have hlX := WrT.lt hWb
  unfold ndV
  go_enter Tryz.func146, Tryz.ntmps146
  go_wp2_with fail
  have hWa := hWb.alloc (.cells #[.string { data := #[42, 42] }] 9)
  have hKa := hK0.alloc (Nat.le_trans hB0 hK0.b.size) (.cells #[.string { data := #[42, 42] }] 9)
  have hbxa := (Lib.alloc_old _ (.cells #[.string { data := #[42, 42] }] 9) _ hlb).trans hbx
  go_at_call 84
  refine (wSayT_ok w0.heap.size X dep _ ([42, 42]) [⟨#[42, 42]⟩] 1 (w.heap.size + 1) _ hWa rfl (by have := WrT.lt hWb; rw [hsg] at this; exact this) (by rw [← hsg]; exact heap_alloc_new _ _) rfl (by decide) (by have h := HLN.out; (try simp only [List.length_append, List.length_cons, List.length_nil, List.length_singleton] at h); (try simp only [List.length_append, List.length_cons, List.length_nil, List.length_singleton]); omega) (Nat.le_trans hB0 hKa.b.size)).mono ?_
  rintro e w_1 ⟨rfl, hW_1, hk_1⟩
  have hK_1 := hKa.trans hk_1
  have hbx := box_keep hk_1 hbxa hbX
  have hB_1 : Below w0.heap.size w0 w_1 := hBs.trans hK_1.b
  obtain ⟨c0, c1, c2, c3, c4, c5⟩ := (cells_box hbx).box
  have hlb := World.block_lt_of_cell? _ _ c0
  obtain ⟨n0_0, n0_1, n0_2, n0_3, n0_4, n0_5⟩ := hC0.later hB_1
  have hlk0 := World.block_lt_of_cell? _ _ n0_0
  have hlX := WrT.lt hW_1
  go_wp2_with fail
  have hI := HF0.out A0 c0' K0 d0 _ _ HN0.out hB_1 hW_1 (by have h := HLN.out; (try simp only [List.length_append, List.length_cons, List.length_nil, List.length_singleton] at h); (try simp only [List.length_append, List.length_cons, List.length_nil, List.length_singleton]); omega)
  unfold ndV at hI
  go_at_call 81
  refine hI.mono ?_
  rintro e w_2 ⟨rfl, hW_2, hk_2⟩
  have hK_2 := hK_1.trans hk_2
  have hbx := box_keep hk_2 hbx hbX
  clear hI
  have hB_2 : Below w0.heap.size w0 w_2 := hBs.trans hK_2.b
  obtain ⟨c0, c1, c2, c3, c4, c5⟩ := (cells_box hbx).box
  have hlb := World.block_lt_of_cell? _ _ c0
  obtain ⟨n0_0, n0_1, n0_2, n0_3, n0_4, n0_5⟩ := hC0.later hB_2
  have hlk0 := World.block_lt_of_cell? _ _ n0_0
  have hlX := WrT.lt hW_2
  go_wp2_with fail
  ((try simp only [Exit.inBlock, Exit.then]); first | refine bodyPost_end (results_none rfl _ _ _) rfl ?_ | refine bodyPost_ret (results_none rfl _ _ _) rfl ?_)
  exact ⟨rfl, hW_2.eq (by rw [HTX.out]; try simp only [List.append_assoc, List.append_nil, List.nil_append, List.cons_append, List.singleton_append]), hK_2⟩
set_option maxHeartbeats 8000000 in
theorem wp52 (D : Nat) (w0 : World) (X dep : Nat) (hE : EOk D w0 X dep) (hTg : TOk D w0 X dep) (T : Nd) (hk : T.kind = 52) (hT : Ex T) (hD : T.depth ≤ D + 1) (hWt : T.weight ≤ 1000000) : FSays 146 w0 X dep Nd.txt T := by
  intro A c K d l0 w hN hBs hW hlen
  have hlen3 : T.kids.length = 1 := len_row hk hT.1 (tx := .name) (L := [.expr]) rfl (by decide)
  obtain ⟨t0, hks⟩ := kids_1 (l := T.kids) hlen3
  have hg0 : T.kids[0]? = some t0 := by rw [hks]; rfl
  obtain ⟨b, off, A0, c0', K0, d0, hKe0, hC0, hN0⟩ := hN.kid hg0
  rw [Nat.zero_mul, Nat.add_zero] at hC0
  subst hKe0
  have hd0 : t0.depth ≤ D ∧ t0.weight ≤ 1000000 := within_kidsM hD hWt t0 (List.mem_of_getElem? hg0)
  have HF0 := Lib.hid (hE t0 (ex_kids hT (by omega) (by omega) (by omega) t0 (List.mem_of_getElem? hg0)) hd0.1 hd0.2)
  have HN0 := Lib.hid hN0
  have i0 : (0 : Int) < (T.kids.length : Int) := by omega
  have i0' : 0 < T.kids.length := by omega
  have hts : T.txt = tx T ++ [61] ++ t0.txt := by rw [txt_eq, hks]; simp [txtOf, hk, gl]
  have HTX := Lib.hid hts
  have HLN := Lib.hid (show l0.length + (tx T ++ [61] ++ t0.txt).length ≤ 1000000000000 by rw [← hts]; exact hlen)
  have z39 : (T.kind == 39) = false := by rw [hk]; rfl
  have z40 : (T.kind == 40) = false := by rw [hk]; rfl
  have z52 : (T.kind == 52) = true := by rw [hk]; rfl
  have z44 : (T.kind == 44) = false := by rw [hk]; rfl
  have z47 : (T.kind == 47) = false := by rw [hk]; rfl
  have z50 : (T.kind == 50) = false := by rw [hk]; rfl
  have z51 : (T.kind == 51) = false := by rw [hk]; rfl
  have z53 : (T.kind == 53) = false := by rw [hk]; rfl
  have z54 : (T.kind == 54) = false := by rw [hk]; rfl
  obtain ⟨hm1, hm2, hrm, hw32, hk1, hk2, hk64, ha64, hts', hKs⟩ := hN.parts
  have hk2' := hk2
  unfold maxLen at hm2 hk2 hts'
  obtain ⟨hk64a, hk64b⟩ := hk64
  obtain ⟨ha64a, ha64b⟩ := ha64
  have hB0 : w0.heap.size ≤ w.heap.size := hBs.size
  have hbX : X < w.heap.size := WrT.lt hW
  have hK0 : WK w0.heap.size X w (w.alloc (.cells #[.int .i64 T.kind, .int .i64 T.pos, .string T.text, .bool T.neg, .slice A T.mag.length c, .slice (some ⟨b, off, none⟩) T.kids.length d] 27)) := (WK.refl _ _ _).alloc hB0 _
  have hWb := hW.alloc (.cells #[.int .i64 T.kind, .int .i64 T.pos, .string T.text, .bool T.neg, .slice A T.mag.length c, .slice (some ⟨b, off, none⟩) T.kids.length d] 27)
  have hBb : Below w0.heap.size w0 (w.alloc (.cells #[.int .i64 T.kind, .int .i64 T.pos, .string T.text, .bool T.neg, .slice A T.mag.length c, .slice (some ⟨b, off, none⟩) T.kids.length d] 27)) := hBs.trans hK0.b
  have hbx := heap_alloc_new w (.cells #[.int .i64 T.kind, .int .i64 T.pos, .string T.text, .bool T.neg, .slice A T.mag.length c, .slice (some ⟨b, off, none⟩) T.kids.length d] 27)
  have hsg : (w.alloc (.cells #[.int .i64 T.kind, .int .i64 T.pos, .string T.text, .bool T.neg, .slice A T.mag.length c, .slice (some ⟨b, off, none⟩) T.kids.length d] 27)).heap.size = w.heap.size + 1 := by simp
  clear hKs hN hlen hE hTg hT hD hWt hrm hw32 hk hts hks hlen3 hg0 hN0 hd0
  obtain ⟨c0, c1, c2, c3, c4, c5⟩ := (cells_box hbx).box
  have hlb := World.block_lt_of_cell? _ _ c0
  obtain ⟨n0_0, n0_1, n0_2, n0_3, n0_4, n0_5⟩ := hC0.later hBb
  have hlk0 := World.block_lt_of_cell? _ _ n0_0
  have hlX := WrT.lt hWb
  unfold ndV
  go_enter Tryz.func146, Tryz.ntmps146
  go_wp2_with fail
  have hWa := hWb.alloc (.cells #[.string (T.text), .string { data := #[61] }] 9)
  have hKa := hK0.alloc (Nat.le_trans hB0 hK0.b.size) (.cells #[.string (T.text), .string { data := #[61] }] 9)
  have hbxa := (Lib.alloc_old _ (.cells #[.string (T.text), .string { data := #[61] }] 9) _ hlb).trans hbx
  go_at_call 84
  refine (wSayT_ok w0.heap.size X dep _ (tx T ++ [61]) [T.text, ⟨#[61]⟩] 2 (w.heap.size + 1) _ hWa rfl (by have := WrT.lt hWb; rw [hsg] at this; exact this) (by rw [← hsg]; exact heap_alloc_new _ _) (by simp [tx]) (by decide) (by have h := HLN.out; (try simp only [List.length_append, List.length_cons, List.length_nil, List.length_singleton] at h); (try simp only [List.length_append, List.length_cons, List.length_nil, List.length_singleton]); omega) (Nat.le_trans hB0 hKa.b.size)).mono ?_
  rintro e w_1 ⟨rfl, hW_1, hk_1⟩
  have hK_1 := hKa.trans hk_1
  have hbx := box_keep hk_1 hbxa hbX
  have hB_1 : Below w0.heap.size w0 w_1 := hBs.trans hK_1.b
  obtain ⟨c0, c1, c2, c3, c4, c5⟩ := (cells_box hbx).box
  have hlb := World.block_lt_of_cell? _ _ c0
  obtain ⟨n0_0, n0_1, n0_2, n0_3, n0_4, n0_5⟩ := hC0.later hB_1
  have hlk0 := World.block_lt_of_cell? _ _ n0_0
  have hlX := WrT.lt hW_1
  go_wp2_with fail
  have hI := HF0.out A0 c0' K0 d0 _ _ HN0.out hB_1 hW_1 (by have h := HLN.out; (try simp only [List.length_append, List.length_cons, List.length_nil, List.length_singleton] at h); (try simp only [List.length_append, List.length_cons, List.length_nil, List.length_singleton]); omega)
  unfold ndV at hI
  go_at_call 81
  refine hI.mono ?_
  rintro e w_2 ⟨rfl, hW_2, hk_2⟩
  have hK_2 := hK_1.trans hk_2
  have hbx := box_keep hk_2 hbx hbX
  clear hI
  have hB_2 : Below w0.heap.size w0 w_2 := hBs.trans hK_2.b
  obtain ⟨c0, c1, c2, c3, c4, c5⟩ := (cells_box hbx).box
  have hlb := World.block_lt_of_cell? _ _ c0
  obtain ⟨n0_0, n0_1, n0_2, n0_3, n0_4, n0_5⟩ := hC0.later hB_2
  have hlk0 := World.block_lt_of_cell? _ _ n0_0
  have hlX := WrT.lt hW_2
  go_wp2_with fail
  ((try simp only [Exit.inBlock, Exit.then]); first | refine bodyPost_end (results_none rfl _ _ _) rfl ?_ | refine bodyPost_ret (results_none rfl _ _ _) rfl ?_)
  exact ⟨rfl, hW_2.eq (by rw [HTX.out]; try simp only [List.append_assoc, List.append_nil, List.nil_append, List.cons_append, List.singleton_append]), hK_2⟩
set_option maxHeartbeats 8000000 in
theorem wp44 (D : Nat) (w0 : World) (X dep : Nat) (hE : EOk D w0 X dep) (hTg : TOk D w0 X dep) (T : Nd) (hk : T.kind = 44) (hT : Ex T) (hD : T.depth ≤ D + 1) (hWt : T.weight ≤ 1000000) : FSays 146 w0 X dep Nd.txt T := by
  intro A c K d l0 w hN hBs hW hlen
  have hlen3 : T.kids.length = 3 := len_row hk hT.1 (tx := .non) (L := [.expr, .expr, .expr]) rfl (by decide)
  obtain ⟨t0, t1, t2, hks⟩ := kids_3 (l := T.kids) hlen3
  have hg0 : T.kids[0]? = some t0 := by rw [hks]; rfl
  obtain ⟨b, off, A0, c0', K0, d0, hKe0, hC0, hN0⟩ := hN.kid hg0
  have hg1 : T.kids[1]? = some t1 := by rw [hks]; rfl
  obtain ⟨b1, off1, A1, c1', K1, d1, hKe1, hC1, hN1⟩ := hN.kid hg1
  have hg2 : T.kids[2]? = some t2 := by rw [hks]; rfl
  obtain ⟨b2, off2, A2, c2', K2, d2, hKe2, hC2, hN2⟩ := hN.kid hg2
  rw [Nat.zero_mul, Nat.add_zero] at hC0
  subst hKe0
  injection hKe1 with e1
  injection e1 with e1 e2
  subst e1 e2
  rw [show 1 * 6 = 6 from rfl] at hC1
  injection hKe2 with e1
  injection e1 with e1 e2
  subst e1 e2
  rw [show 2 * 6 = 12 from rfl] at hC2
  have hd0 : t0.depth ≤ D ∧ t0.weight ≤ 1000000 := within_kidsM hD hWt t0 (List.mem_of_getElem? hg0)
  have HF0 := Lib.hid (hE t0 (ex_kids hT (by omega) (by omega) (by omega) t0 (List.mem_of_getElem? hg0)) hd0.1 hd0.2)
  have HN0 := Lib.hid hN0
  have i0 : (0 : Int) < (T.kids.length : Int) := by omega
  have i0' : 0 < T.kids.length := by omega
  have hd1 : t1.depth ≤ D ∧ t1.weight ≤ 1000000 := within_kidsM hD hWt t1 (List.mem_of_getElem? hg1)
  have HF1 := Lib.hid (hE t1 (ex_kids hT (by omega) (by omega) (by omega) t1 (List.mem_of_getElem? hg1)) hd1.1 hd1.2)
  have HN1 := Lib.hid hN1
  have i1 : (1 : Int) < (T.kids.length : Int) := by omega
  have i1' : 1 < T.kids.length := by omega
  have hd2 : t2.depth ≤ D ∧ t2.weight ≤ 1000000 := within_kidsM hD hWt t2 (List.mem_of_getElem? hg2)
  have HF2 := Lib.hid (hE t2 (ex_kids hT (by omega) (by omega) (by omega) t2 (List.mem_of_getElem? hg2)) hd2.1 hd2.2)
  have HN2 := Lib.hid hN2
  have i2 : (2 : Int) < (T.kids.length : Int) := by omega
  have i2' : 2 < T.kids.length := by omega
  have hts : T.txt = [40] ++ t0.txt ++ [32, 105, 102, 32] ++ t1.txt ++ [32, 101, 108, 115, 101, 32] ++ t2.txt ++ [41] := by rw [txt_eq, hks]; simp [txtOf, hk, gl]
  have HTX := Lib.hid hts
  have HLN := Lib.hid (show l0.length + ([40] ++ t0.txt ++ [32, 105, 102, 32] ++ t1.txt ++ [32, 101, 108, 115, 101, 32] ++ t2.txt ++ [41]).length ≤ 1000000000000 by rw [← hts]; exact hlen)
  have z39 : (T.kind == 39) = false := by rw [hk]; rfl
  have z40 : (T.kind == 40) = false := by rw [hk]; rfl
  have z52 : (T.kind == 52) = false := by rw [hk]; rfl
  have z44 : (T.kind == 44) = true := by rw [hk]; rfl
  have z47 : (T.kind == 47) = false := by rw [hk]; rfl
  have z50 : (T.kind == 50) = false := by rw [hk]; rfl
  have z51 : (T.kind == 51) = false := by rw [hk]; rfl
  have z53 : (T.kind == 53) = false := by rw [hk]; rfl
  have z54 : (T.kind == 54) = false := by rw [hk]; rfl
  obtain ⟨hm1, hm2, hrm, hw32, hk1, hk2, hk64, ha64, hts', hKs⟩ := hN.parts
  have hk2' := hk2
  unfold maxLen at hm2 hk2 hts'
  obtain ⟨hk64a, hk64b⟩ := hk64
  obtain ⟨ha64a, ha64b⟩ := ha64
  have hB0 : w0.heap.size ≤ w.heap.size := hBs.size
  have hbX : X < w.heap.size := WrT.lt hW
  have hK0 : WK w0.heap.size X w (w.alloc (.cells #[.int .i64 T.kind, .int .i64 T.pos, .string T.text, .bool T.neg, .slice A T.mag.length c, .slice (some ⟨b, off, none⟩) T.kids.length d] 27)) := (WK.refl _ _ _).alloc hB0 _
  have hWb := hW.alloc (.cells #[.int .i64 T.kind, .int .i64 T.pos, .string T.text, .bool T.neg, .slice A T.mag.length c, .slice (some ⟨b, off, none⟩) T.kids.length d] 27)
  have hBb : Below w0.heap.size w0 (w.alloc (.cells #[.int .i64 T.kind, .int .i64 T.pos, .string T.text, .bool T.neg, .slice A T.mag.length c, .slice (some ⟨b, off, none⟩) T.kids.length d] 27)) := hBs.trans hK0.b
  have hbx := heap_alloc_new w (.cells #[.int .i64 T.kind, .int .i64 T.pos, .string T.text, .bool T.neg, .slice A T.mag.length c, .slice (some ⟨b, off, none⟩) T.kids.length d] 27)
  have hsg : (w.alloc (.cells #[.int .i64 T.kind, .int .i64 T.pos, .string T.text, .bool T.neg, .slice A T.mag.length c, .slice (some ⟨b, off, none⟩) T.kids.length d] 27)).heap.size = w.heap.size + 1 := by simp
  clear hKs hN hlen hE hTg hT hD hWt hrm hw32 hk hts hks hlen3 hg0 hN0 hd0 hg1 hN1 hd1 hg2 hN2 hd2
  obtain ⟨c0, c1, c2, c3, c4, c5⟩ := (cells_box hbx).box
  have hlb := World.block_lt_of_cell? _ _ c0
  obtain ⟨n0_0, n0_1, n0_2, n0_3, n0_4, n0_5⟩ := hC0.later hBb
  have hlk0 := World.block_lt_of_cell? _ _ n0_0
  obtain ⟨n1_0, n1_1, n1_2, n1_3, n1_4, n1_5⟩ := hC1.later hBb
  have hlk1 := World.block_lt_of_cell? _ _ n1_0
  obtain ⟨n2_0, n2_1, n2_2, n2_3, n2_4, n2_5⟩ := hC2.later hBb
  have hlk2 := World.block_lt_of_cell? _ _ n2_0
  have hlX := WrT.lt hWb
  unfold ndV
  go_enter Tryz.func146, Tryz.ntmps146
  go_wp2_with fail
  have hWa := hWb.alloc (.cells #[.string { data := #[40] }] 9)
  have hKa := hK0.alloc (Nat.le_trans hB0 hK0.b.size) (.cells #[.string { data := #[40] }] 9)
  have hbxa := (Lib.alloc_old _ (.cells #[.string { data := #[40] }] 9) _ hlb).trans hbx
  go_at_call 84
  refine (wSayT_ok w0.heap.size X dep _ ([40]) [⟨#[40]⟩] 1 (w.heap.size + 1) _ hWa rfl (by have := WrT.lt hWb; rw [hsg] at this; exact this) (by rw [← hsg]; exact heap_alloc_new _ _) rfl (by decide) (by have h := HLN.out; (try simp only [List.length_append, List.length_cons, List.length_nil, List.length_singleton] at h); (try simp only [List.length_append, List.length_cons, List.length_nil, List.length_singleton]); omega) (Nat.le_trans hB0 hKa.b.size)).mono ?_
  rintro e w_1 ⟨rfl, hW_1, hk_1⟩
  have hK_1 := hKa.trans hk_1
  have hbx := box_keep hk_1 hbxa hbX
  have hB_1 : Below w0.heap.size w0 w_1 := hBs.trans hK_1.b
  obtain ⟨c0, c1, c2, c3, c4, c5⟩ := (cells_box hbx).box
  have hlb := World.block_lt_of_cell? _ _ c0
  obtain ⟨n0_0, n0_1, n0_2, n0_3, n0_4, n0_5⟩ := hC0.later hB_1
  have hlk0 := World.block_lt_of_cell? _ _ n0_0
  obtain ⟨n1_0, n1_1, n1_2, n1_3, n1_4, n1_5⟩ := hC1.later hB_1
  have hlk1 := World.block_lt_of_cell? _ _ n1_0
  obtain ⟨n2_0, n2_1, n2_2, n2_3, n2_4, n2_5⟩ := hC2.later hB_1
  have hlk2 := World.block_lt_of_cell? _ _ n2_0
  have hlX := WrT.lt hW_1
  go_wp2_with fail
  have hI := HF0.out A0 c0' K0 d0 _ _ HN0.out hB_1 hW_1 (by have h := HLN.out; (try simp only [List.length_append, List.length_cons, List.length_nil, List.length_singleton] at h); (try simp only [List.length_append, List.length_cons, List.length_nil, List.length_singleton]); omega)
  unfold ndV at hI
  go_at_call 81
  refine hI.mono ?_
  rintro e w_2 ⟨rfl, hW_2, hk_2⟩
  have hK_2 := hK_1.trans hk_2
  have hbx := box_keep hk_2 hbx hbX
  clear hI
  have hB_2 : Below w0.heap.size w0 w_2 := hBs.trans hK_2.b
  obtain ⟨c0, c1, c2, c3, c4, c5⟩ := (cells_box hbx).box
  have hlb := World.block_lt_of_cell? _ _ c0
  obtain ⟨n0_0, n0_1, n0_2, n0_3, n0_4, n0_5⟩ := hC0.later hB_2
  have hlk0 := World.block_lt_of_cell? _ _ n0_0
  obtain ⟨n1_0, n1_1, n1_2, n1_3, n1_4, n1_5⟩ := hC1.later hB_2
  have hlk1 := World.block_lt_of_cell? _ _ n1_0
  obtain ⟨n2_0, n2_1, n2_2, n2_3, n2_4, n2_5⟩ := hC2.later hB_2
  have hlk2 := World.block_lt_of_cell? _ _ n2_0
  have hlX := WrT.lt hW_2
  go_wp2_with fail
  have hWa := hW_2.alloc (.cells #[.string { data := #[32, 105, 102, 32] }] 9)
  have hKa := hK_2.alloc (Nat.le_trans hB0 hK_2.b.size) (.cells #[.string { data := #[32, 105, 102, 32] }] 9)
  have hbxa := (Lib.alloc_old _ (.cells #[.string { data := #[32, 105, 102, 32] }] 9) _ hlb).trans hbx
  go_at_call 84
  refine (wSayT_ok w0.heap.size X dep _ ([32, 105, 102, 32]) [⟨#[32, 105, 102, 32]⟩] 1 _ _ hWa rfl (WrT.lt hW_2) (heap_alloc_new _ _) rfl (by decide) (by have h := HLN.out; (try simp only [List.length_append, List.length_cons, List.length_nil, List.length_singleton] at h); (try simp only [List.length_append, List.length_cons, List.length_nil, List.length_singleton]); omega) (Nat.le_trans hB0 hKa.b.size)).mono ?_
  rintro e w_3 ⟨rfl, hW_3, hk_3⟩
  have hK_3 := hKa.trans hk_3
  have hbx := box_keep hk_3 hbxa hbX
  have hB_3 : Below w0.heap.size w0 w_3 := hBs.trans hK_3.b
  obtain ⟨c0, c1, c2, c3, c4, c5⟩ := (cells_box hbx).box
  have hlb := World.block_lt_of_cell? _ _ c0
  obtain ⟨n0_0, n0_1, n0_2, n0_3, n0_4, n0_5⟩ := hC0.later hB_3
  have hlk0 := World.block_lt_of_cell? _ _ n0_0
  obtain ⟨n1_0, n1_1, n1_2, n1_3, n1_4, n1_5⟩ := hC1.later hB_3
  have hlk1 := World.block_lt_of_cell? _ _ n1_0
  obtain ⟨n2_0, n2_1, n2_2, n2_3, n2_4, n2_5⟩ := hC2.later hB_3
  have hlk2 := World.block_lt_of_cell? _ _ n2_0
  have hlX := WrT.lt hW_3
  go_wp2_with fail
  have hI := HF1.out A1 c1' K1 d1 _ _ HN1.out hB_3 hW_3 (by have h := HLN.out; (try simp only [List.length_append, List.length_cons, List.length_nil, List.length_singleton] at h); (try simp only [List.length_append, List.length_cons, List.length_nil, List.length_singleton]); omega)
  unfold ndV at hI
  go_at_call 81
  refine hI.mono ?_
  rintro e w_4 ⟨rfl, hW_4, hk_4⟩
  have hK_4 := hK_3.trans hk_4
  have hbx := box_keep hk_4 hbx hbX
  clear hI
  have hB_4 : Below w0.heap.size w0 w_4 := hBs.trans hK_4.b
  obtain ⟨c0, c1, c2, c3, c4, c5⟩ := (cells_box hbx).box
  have hlb := World.block_lt_of_cell? _ _ c0
  obtain ⟨n0_0, n0_1, n0_2, n0_3, n0_4, n0_5⟩ := hC0.later hB_4
  have hlk0 := World.block_lt_of_cell? _ _ n0_0
  obtain ⟨n1_0, n1_1, n1_2, n1_3, n1_4, n1_5⟩ := hC1.later hB_4
  have hlk1 := World.block_lt_of_cell? _ _ n1_0
  obtain ⟨n2_0, n2_1, n2_2, n2_3, n2_4, n2_5⟩ := hC2.later hB_4
  have hlk2 := World.block_lt_of_cell? _ _ n2_0
  have hlX := WrT.lt hW_4
  go_wp2_with fail
  have hWa := hW_4.alloc (.cells #[.string { data := #[32, 101, 108, 115, 101, 32] }] 9)
  have hKa := hK_4.alloc (Nat.le_trans hB0 hK_4.b.size) (.cells #[.string { data := #[32, 101, 108, 115, 101, 32] }] 9)
  have hbxa := (Lib.alloc_old _ (.cells #[.string { data := #[32, 101, 108, 115, 101, 32] }] 9) _ hlb).trans hbx
  go_at_call 84
  refine (wSayT_ok w0.heap.size X dep _ ([32, 101, 108, 115, 101, 32]) [⟨#[32, 101, 108, 115, 101, 32]⟩] 1 _ _ hWa rfl (WrT.lt hW_4) (heap_alloc_new _ _) rfl (by decide) (by have h := HLN.out; (try simp only [List.length_append, List.length_cons, List.length_nil, List.length_singleton] at h); (try simp only [List.length_append, List.length_cons, List.length_nil, List.length_singleton]); omega) (Nat.le_trans hB0 hKa.b.size)).mono ?_
  rintro e w_5 ⟨rfl, hW_5, hk_5⟩
  have hK_5 := hKa.trans hk_5
  have hbx := box_keep hk_5 hbxa hbX
  have hB_5 : Below w0.heap.size w0 w_5 := hBs.trans hK_5.b
  obtain ⟨c0, c1, c2, c3, c4, c5⟩ := (cells_box hbx).box
  have hlb := World.block_lt_of_cell? _ _ c0
  obtain ⟨n0_0, n0_1, n0_2, n0_3, n0_4, n0_5⟩ := hC0.later hB_5
  have hlk0 := World.block_lt_of_cell? _ _ n0_0
  obtain ⟨n1_0, n1_1, n1_2, n1_3, n1_4, n1_5⟩ := hC1.later hB_5
  have hlk1 := World.block_lt_of_cell? _ _ n1_0
  obtain ⟨n2_0, n2_1, n2_2, n2_3, n2_4, n2_5⟩ := hC2.later hB_5
  have hlk2 := World.block_lt_of_cell? _ _ n2_0
  have hlX := WrT.lt hW_5
  go_wp2_with fail
  have hI := HF2.out A2 c2' K2 d2 _ _ HN2.out hB_5 hW_5 (by have h := HLN.out; (try simp only [List.length_append, List.length_cons, List.length_nil, List.length_singleton] at h); (try simp only [List.length_append, List.length_cons, List.length_nil, List.length_singleton]); omega)
  unfold ndV at hI
  go_at_call 81
  refine hI.mono ?_
  rintro e w_6 ⟨rfl, hW_6, hk_6⟩
  have hK_6 := hK_5.trans hk_6
  have hbx := box_keep hk_6 hbx hbX
  clear hI
  have hB_6 : Below w0.heap.size w0 w_6 := hBs.trans hK_6.b
  obtain ⟨c0, c1, c2, c3, c4, c5⟩ := (cells_box hbx).box
  have hlb := World.block_lt_of_cell? _ _ c0
  obtain ⟨n0_0, n0_1, n0_2, n0_3, n0_4, n0_5⟩ := hC0.later hB_6
  have hlk0 := World.block_lt_of_cell? _ _ n0_0
  obtain ⟨n1_0, n1_1, n1_2, n1_3, n1_4, n1_5⟩ := hC1.later hB_6
  have hlk1 := World.block_lt_of_cell? _ _ n1_0
  obtain ⟨n2_0, n2_1, n2_2, n2_3, n2_4, n2_5⟩ := hC2.later hB_6
  have hlk2 := World.block_lt_of_cell? _ _ n2_0
  have hlX := WrT.lt hW_6
  go_wp2_with fail
  have hWa := hW_6.alloc (.cells #[.string { data := #[41] }] 9)
  have hKa := hK_6.alloc (Nat.le_trans hB0 hK_6.b.size) (.cells #[.string { data := #[41] }] 9)
  have hbxa := (Lib.alloc_old _ (.cells #[.string { data := #[41] }] 9) _ hlb).trans hbx
  go_at_call 84
  refine (wSayT_ok w0.heap.size X dep _ ([41]) [⟨#[41]⟩] 1 _ _ hWa rfl (WrT.lt hW_6) (heap_alloc_new _ _) rfl (by decide) (by have h := HLN.out; (try simp only [List.length_append, List.length_cons, List.length_nil, List.length_singleton] at h); (try simp only [List.length_append, List.length_cons, List.length_nil, List.length_singleton]); omega) (Nat.le_trans hB0 hKa.b.size)).mono ?_
  rintro e w_7 ⟨rfl, hW_7, hk_7⟩
  have hK_7 := hKa.trans hk_7
  have hbx := box_keep hk_7 hbxa hbX
  have hB_7 : Below w0.heap.size w0 w_7 := hBs.trans hK_7.b
  obtain ⟨c0, c1, c2, c3, c4, c5⟩ := (cells_box hbx).box
  have hlb := World.block_lt_of_cell? _ _ c0
  obtain ⟨n0_0, n0_1, n0_2, n0_3, n0_4, n0_5⟩ := hC0.later hB_7
  have hlk0 := World.block_lt_of_cell? _ _ n0_0
  obtain ⟨n1_0, n1_1, n1_2, n1_3, n1_4, n1_5⟩ := hC1.later hB_7
  have hlk1 := World.block_lt_of_cell? _ _ n1_0
  obtain ⟨n2_0, n2_1, n2_2, n2_3, n2_4, n2_5⟩ := hC2.later hB_7
  have hlk2 := World.block_lt_of_cell? _ _ n2_0
  have hlX := WrT.lt hW_7
  go_wp2_with fail
  ((try simp only [Exit.inBlock, Exit.then]); first | refine bodyPost_end (results_none rfl _ _ _) rfl ?_ | refine bodyPost_ret (results_none rfl _ _ _) rfl ?_)
  exact ⟨rfl, hW_7.eq (by rw [HTX.out]; try simp only [List.append_assoc, List.append_nil, List.nil_append, List.cons_append, List.singleton_append]), hK_7⟩
end
section
set_option linter.unusedVariables false
set_option linter.unusedSimpArgs false
open Go.RowKit
set_option maxRecDepth 1000000
set_option maxHeartbeats 8000000 in
theorem wp47 (D : Nat) (w0 : World) (X dep : Nat) (hE : EOk D w0 X dep) (hTg : TOk D w0 X dep) (T : Nd) (hk : T.kind = 47) (hT : Ex T) (hD : T.depth ≤ D + 1) (hWt : T.weight ≤ 1000000) : FSays 146 w0 X dep Nd.txt T := by
  intro A c K d l0 w hN hBs hW hlen
  have hlen3 : T.kids.length = 1 := len_row hk hT.1 (tx := .non) (L := [.expr]) rfl (by decide)
  obtain ⟨t0, hks⟩ := kids_1 hlen3
  have hts : T.txt = [40, 110, 111, 116, 32] ++ sepL com (T.kids.map Nd.txt) ++ [41] := by rw [txt_eq]; simp [txtOf, hk, hks, gl, sepL]
  have HTX := Lib.hid hts
  have HLN := Lib.hid (show l0.length + ([40, 110, 111, 116, 32] ++ sepL com (T.kids.map Nd.txt) ++ [41]).length ≤ 1000000000000 by rw [← hts]; exact hlen)
  have z39 : (T.kind == 39) = false := by rw [hk]; rfl
  have z40 : (T.kind == 40) = false := by rw [hk]; rfl
  have z52 : (T.kind == 52) = false := by rw [hk]; rfl
  have z44 : (T.kind == 44) = false := by rw [hk]; rfl
  have z47 : (T.kind == 47) = true := by rw [hk]; rfl
  have z50 : (T.kind == 50) = false := by rw [hk]; rfl
  have z51 : (T.kind == 51) = false := by rw [hk]; rfl
  have z53 : (T.kind == 53) = false := by rw [hk]; rfl
  have z54 : (T.kind == 54) = false := by rw [hk]; rfl
  obtain ⟨hm1, hm2, hrm, hw32, hk1, hk2, hk64, ha64, hts', hKs⟩ := hN.parts
  have hk2' := hk2
  unfold maxLen at hm2 hk2 hts'
  obtain ⟨hk64a, hk64b⟩ := hk64
  obtain ⟨ha64a, ha64b⟩ := ha64
  have hB0 : w0.heap.size ≤ w.heap.size := hBs.size
  have hbX : X < w.heap.size := WrT.lt hW
  have hK0 : WK w0.heap.size X w (w.alloc (.cells #[.int .i64 T.kind, .int .i64 T.pos, .string T.text, .bool T.neg, .slice A T.mag.length c, .slice K T.kids.length d] 27)) := (WK.refl _ _ _).alloc hB0 _
  have hWb := hW.alloc (.cells #[.int .i64 T.kind, .int .i64 T.pos, .string T.text, .bool T.neg, .slice A T.mag.length c, .slice K T.kids.length d] 27)
  have hBb : Below w0.heap.size w0 (w.alloc (.cells #[.int .i64 T.kind, .int .i64 T.pos, .string T.text, .bool T.neg, .slice A T.mag.length c, .slice K T.kids.length d] 27)) := hBs.trans hK0.b
  have hbx := heap_alloc_new w (.cells #[.int .i64 T.kind, .int .i64 T.pos, .string T.text, .bool T.neg, .slice A T.mag.length c, .slice K T.kids.length d] 27)
  have hsg : (w.alloc (.cells #[.int .i64 T.kind, .int .i64 T.pos, .string T.text, .bool T.neg, .slice A T.mag.length c, .slice K T.kids.length d] 27)).heap.size = w.heap.size + 1 := by simp
  have HFA := Lib.hid (fun (t : Nd) (ht : t ∈ T.kids) => hE t (ex_kids hT (by omega) (by omega) (by omega) t ht) (within_kidsM hD hWt t ht).1 (within_kidsM hD hWt t ht).2)
  have HKA := Lib.hid hKs
  clear hKs hN hlen hE hTg hT hD hWt hrm hw32 hk hts hks hlen3 
  obtain ⟨c0, c1, c2, c3, c4, c5⟩ := (cells_box hbx).box
  have hlb := World.block_lt_of_cell? _ _ c0
  have hlX := WrT.lt hWb
  unfold ndV
  go_enter Tryz.func146, Tryz.ntmps146
  go_wp2_with fail
  have hI := wBetween_ok ⟨#[40, 110, 111, 116, 32]⟩ ⟨#[41]⟩ T.kids T.kids.length K d w0 X dep _ _ rfl HKA.out HFA.out hk1 hk2' hBb hWb (by have h := HLN.out; (try simp only [List.length_append, List.length_cons, List.length_nil, List.length_singleton] at h); (try simp only [List.length_append, List.length_cons, List.length_nil, List.length_singleton]); omega)
  go_at_call 143
  refine hI.mono ?_
  rintro e w_1 ⟨rfl, hW_1, hk_1⟩
  have hK_1 := hK0.trans hk_1
  have hbx := box_keep hk_1 hbx hbX
  clear hI
  have hB_1 : Below w0.heap.size w0 w_1 := hBs.trans hK_1.b
  obtain ⟨c0, c1, c2, c3, c4, c5⟩ := (cells_box hbx).box
  have hlb := World.block_lt_of_cell? _ _ c0
  have hlX := WrT.lt hW_1
  go_wp2_with fail
  ((try simp only [Exit.inBlock, Exit.then]); first | refine bodyPost_end (results_none rfl _ _ _) rfl ?_ | refine bodyPost_ret (results_none rfl _ _ _) rfl ?_)
  exact ⟨rfl, hW_1.eq (by rw [HTX.out]; try simp only [List.append_assoc, List.append_nil, List.nil_append, List.cons_append, List.singleton_append]), hK_1⟩
set_option maxHeartbeats 8000000 in
theorem wp50 (D : Nat) (w0 : World) (X dep : Nat) (hE : EOk D w0 X dep) (hTg : TOk D w0 X dep) (T : Nd) (hk : T.kind = 50) (hT : Ex T) (hD : T.depth ≤ D + 1) (hWt : T.weight ≤ 1000000) : FSays 146 w0 X dep Nd.txt T := by
  intro A c K d l0 w hN hBs hW hlen
  have hlen3 : T.kids.length = 1 := len_row hk hT.1 (tx := .non) (L := [.expr]) rfl (by decide)
  obtain ⟨t0, hks⟩ := kids_1 hlen3
  have hts : T.txt = [40, 45] ++ sepL com (T.kids.map Nd.txt) ++ [41] := by rw [txt_eq]; simp [txtOf, hk, hks, gl, sepL]
  have HTX := Lib.hid hts
  have HLN := Lib.hid (show l0.length + ([40, 45] ++ sepL com (T.kids.map Nd.txt) ++ [41]).length ≤ 1000000000000 by rw [← hts]; exact hlen)
  have z39 : (T.kind == 39) = false := by rw [hk]; rfl
  have z40 : (T.kind == 40) = false := by rw [hk]; rfl
  have z52 : (T.kind == 52) = false := by rw [hk]; rfl
  have z44 : (T.kind == 44) = false := by rw [hk]; rfl
  have z47 : (T.kind == 47) = false := by rw [hk]; rfl
  have z50 : (T.kind == 50) = true := by rw [hk]; rfl
  have z51 : (T.kind == 51) = false := by rw [hk]; rfl
  have z53 : (T.kind == 53) = false := by rw [hk]; rfl
  have z54 : (T.kind == 54) = false := by rw [hk]; rfl
  obtain ⟨hm1, hm2, hrm, hw32, hk1, hk2, hk64, ha64, hts', hKs⟩ := hN.parts
  have hk2' := hk2
  unfold maxLen at hm2 hk2 hts'
  obtain ⟨hk64a, hk64b⟩ := hk64
  obtain ⟨ha64a, ha64b⟩ := ha64
  have hB0 : w0.heap.size ≤ w.heap.size := hBs.size
  have hbX : X < w.heap.size := WrT.lt hW
  have hK0 : WK w0.heap.size X w (w.alloc (.cells #[.int .i64 T.kind, .int .i64 T.pos, .string T.text, .bool T.neg, .slice A T.mag.length c, .slice K T.kids.length d] 27)) := (WK.refl _ _ _).alloc hB0 _
  have hWb := hW.alloc (.cells #[.int .i64 T.kind, .int .i64 T.pos, .string T.text, .bool T.neg, .slice A T.mag.length c, .slice K T.kids.length d] 27)
  have hBb : Below w0.heap.size w0 (w.alloc (.cells #[.int .i64 T.kind, .int .i64 T.pos, .string T.text, .bool T.neg, .slice A T.mag.length c, .slice K T.kids.length d] 27)) := hBs.trans hK0.b
  have hbx := heap_alloc_new w (.cells #[.int .i64 T.kind, .int .i64 T.pos, .string T.text, .bool T.neg, .slice A T.mag.length c, .slice K T.kids.length d] 27)
  have hsg : (w.alloc (.cells #[.int .i64 T.kind, .int .i64 T.pos, .string T.text, .bool T.neg, .slice A T.mag.length c, .slice K T.kids.length d] 27)).heap.size = w.heap.size + 1 := by simp
  have HFA := Lib.hid (fun (t : Nd) (ht : t ∈ T.kids) => hE t (ex_kids hT (by omega) (by omega) (by omega) t ht) (within_kidsM hD hWt t ht).1 (within_kidsM hD hWt t ht).2)
  have HKA := Lib.hid hKs
  clear hKs hN hlen hE hTg hT hD hWt hrm hw32 hk hts hks hlen3 
  obtain ⟨c0, c1, c2, c3, c4, c5⟩ := (cells_box hbx).box
  have hlb := World.block_lt_of_cell? _ _ c0
  have hlX := WrT.lt hWb
  unfold ndV
  go_enter Tryz.func146, Tryz.ntmps146
  go_wp2_with fail
  have hI := wBetween_ok ⟨#[40, 45]⟩ ⟨#[41]⟩ T.kids T.kids.length K d w0 X dep _ _ rfl HKA.out HFA.out hk1 hk2' hBb hWb (by have h := HLN.out; (try simp only [List.length_append, List.length_cons, List.length_nil, List.length_singleton] at h); (try simp only [List.length_append, List.length_cons, List.length_nil, List.length_singleton]); omega)
  go_at_call 143
  refine hI.mono ?_
  rintro e w_1 ⟨rfl, hW_1, hk_1⟩
  have hK_1 := hK0.trans hk_1
  have hbx := box_keep hk_1 hbx hbX
  clear hI
  have hB_1 : Below w0.heap.size w0 w_1 := hBs.trans hK_1.b
  obtain ⟨c0, c1, c2, c3, c4, c5⟩ := (cells_box hbx).box
  have hlb := World.block_lt_of_cell? _ _ c0
  have hlX := WrT.lt hW_1
  go_wp2_with fail
  ((try simp only [Exit.inBlock, Exit.then]); first | refine bodyPost_end (results_none rfl _ _ _) rfl ?_ | refine bodyPost_ret (results_none rfl _ _ _) rfl ?_)
  exact ⟨rfl, hW_1.eq (by rw [HTX.out]; try simp only [List.append_assoc, List.append_nil, List.nil_append, List.cons_append, List.singleton_append]), hK_1⟩
end
end Go.Proofs.YtjefhdlncikhmaaGreatDoor
