/- Joined by a program: Wr4f, Wr4g, Wr4h, Wr4i, Wr4j, Wr4. -/
import Derived.WalkKit
import Derived.Test.YtjefhdlncikhmaaGreatDoorShelf
import Derived.Test.YtjefhdlncikhmaaGreatDoorPB03
import Derived.Test.YtjefhdlncikhmaaGreatDoorPB10
import Derived.Test.YtjefhdlncikhmaaGreatDoorPB11
import Derived.Test.YtjefhdlncikhmaaGreatDoorPB12
namespace Go.Proofs.YtjefhdlncikhmaaGreatDoor
section
set_option linter.unusedVariables false
set_option linter.unusedSimpArgs false
open Go.RowKit
set_option maxRecDepth 1000000
set_option maxHeartbeats 8000000 in
theorem wp51 (D : Nat) (w0 : World) (X dep : Nat) (hE : EOk D w0 X dep) (hTg : TOk D w0 X dep) (T : Nd) (hk : T.kind = 51) (hT : Ex T) (hD : T.depth ≤ D + 1) (hWt : T.weight ≤ 1000000) : FSays 146 w0 X dep Nd.txt T := by
  intro A c K d l0 w hN hBs hW hlen
  have hlen3 : 1 ≤ T.kids.length := len_call hk hT.1
  obtain ⟨t0, hg0⟩ : ∃ t0, T.kids[0]? = some t0 := ⟨_, List.getElem?_eq_getElem (by omega)⟩
  have htk : T.kids = t0 :: T.kids.drop 1 := by
    match hks : T.kids, hg0 with
    | a :: r, h => simp at h; simp [h]
  obtain ⟨b, off, A0, c0', K0, d0, hKe0, hC0, hN0⟩ := hN.kid hg0
  rw [Nat.zero_mul, Nat.add_zero] at hC0
  subst hKe0
  have hd0 : t0.depth ≤ D ∧ t0.weight ≤ 1000000 := within_kidsM hD hWt t0 (List.mem_of_getElem? hg0)
  have hex0 := ex_kids hT (by omega) (by omega) (by omega)
  have HF0 := Lib.hid (hE t0 (hex0 t0 (List.mem_of_getElem? hg0)) hd0.1 hd0.2)
  have HN0 := Lib.hid hN0
  have HFT := Lib.hid (fun (t : Nd) (ht : t ∈ T.kids.drop 1) => hE t (hex0 t (List.mem_of_mem_drop ht)) (within_kidsM hD hWt t (List.mem_of_mem_drop ht)).1 (within_kidsM hD hWt t (List.mem_of_mem_drop ht)).2)
  have i0 : (0 : Int) < (T.kids.length : Int) := by omega
  have i0' : 0 < T.kids.length := by omega
  have i1 : (1 : Int) ≤ (T.kids.length : Int) := by omega
  have hkd := hN.parts.2.2.2.2.1
  have i2 : (1 : Int) ≤ (d : Int) := by omega
  have i3 : (T.kids.length : Int) ≤ (d : Int) := by omega
  have hts : T.txt = t0.txt ++ [40] ++ sepL com ((T.kids.drop 1).map Nd.txt) ++ [41] := by
    rw [txt_eq, show T.kids.map Nd.txt = t0.txt :: (T.kids.drop 1).map Nd.txt by rw [← List.map_cons, ← htk]]
    simp [txtOf, hk, gl]
  have HTX := Lib.hid hts
  have HLN := Lib.hid (show l0.length + (t0.txt ++ [40] ++ sepL com ((T.kids.drop 1).map Nd.txt) ++ [41]).length ≤ 1000000000000 by rw [← hts]; exact hlen)
  have z39 : (T.kind == 39) = false := by rw [hk]; rfl
  have z40 : (T.kind == 40) = false := by rw [hk]; rfl
  have z52 : (T.kind == 52) = false := by rw [hk]; rfl
  have z44 : (T.kind == 44) = false := by rw [hk]; rfl
  have z47 : (T.kind == 47) = false := by rw [hk]; rfl
  have z50 : (T.kind == 50) = false := by rw [hk]; rfl
  have z51 : (T.kind == 51) = true := by rw [hk]; rfl
  have z53 : (T.kind == 53) = false := by rw [hk]; rfl
  have z54 : (T.kind == 54) = false := by rw [hk]; rfl
  obtain ⟨hm1, hm2, hrm, hw32, hk1, hk2, hk64, ha64, hts', hKs⟩ := hN.parts
  have hk2' := hk2
  unfold maxLen at hm2 hk2 hts'
  obtain ⟨hk64a, hk64b⟩ := hk64
  obtain ⟨ha64a, ha64b⟩ := ha64
  have hB0 : w0.heap.size ≤ w.heap.size := hBs.size
  have hbX : X < w.heap.size := WrT.lt hW
  have hK0 : WK w0.heap.size X w (w.alloc (.cells #[.int .i64 T.kind, .int .i64 T.pos, .string T.text, .bool T.neg, .slice A T.mag.length c, .slice (some ⟨b, off, none⟩) T.kids.length d] 27)) := (WK.refl _ _ _).alloc hB0 _
  have hWb := hW.alloc (.cells #[.int .i64 T.kind, .int .i64 T.pos, .string T.text, .bool T.neg, .slice A T.mag.length c, .slice (some ⟨b, off, none⟩) T.kids.length d] 27)
  have hBb : Below w0.heap.size w0 (w.alloc (.cells #[.int .i64 T.kind, .int .i64 T.pos, .string T.text, .bool T.neg, .slice A T.mag.length c, .slice (some ⟨b, off, none⟩) T.kids.length d] 27)) := hBs.trans hK0.b
  have hbx := heap_alloc_new w (.cells #[.int .i64 T.kind, .int .i64 T.pos, .string T.text, .bool T.neg, .slice A T.mag.length c, .slice (some ⟨b, off, none⟩) T.kids.length d] 27)
  have hsg : (w.alloc (.cells #[.int .i64 T.kind, .int .i64 T.pos, .string T.text, .bool T.neg, .slice A T.mag.length c, .slice (some ⟨b, off, none⟩) T.kids.length d] 27)).heap.size = w.heap.size + 1 := by simp
  have HKT := Lib.hid (hKs.cut 1 d hkd)
  clear hKs hN hlen hE hTg hT hD hWt hrm hw32 hk hts hg0 hN0 hd0 hex0 htk hlen3
  by_cases hd1 : d = 1
  · subst hd1
    simp only [if_true] at HKT
    obtain ⟨c0, c1, c2, c3, c4, c5⟩ := (cells_box hbx).box
    have hlb := World.block_lt_of_cell? _ _ c0
    obtain ⟨n0_0, n0_1, n0_2, n0_3, n0_4, n0_5⟩ := hC0.later hBb
    have hlk0 := World.block_lt_of_cell? _ _ n0_0
    have hlX := WrT.lt hWb
    unfold ndV
    go_enter Tryz.func146, Tryz.ntmps146
    go_wp2_with fail
    have hI := HF0.out A0 c0' K0 d0 _ _ HN0.out hBb hWb (by have h := HLN.out; (try simp only [List.length_append, List.length_cons, List.length_nil, List.length_singleton] at h); (try simp only [List.length_append, List.length_cons, List.length_nil, List.length_singleton]); omega)
    unfold ndV at hI
    go_at_call 81
    refine hI.mono ?_
    rintro e w_1 ⟨rfl, hW_1, hk_1⟩
    have hK_1 := hK0.trans hk_1
    have hbx := box_keep hk_1 hbx hbX
    clear hI
    have hB_1 : Below w0.heap.size w0 w_1 := hBs.trans hK_1.b
    obtain ⟨c0, c1, c2, c3, c4, c5⟩ := (cells_box hbx).box
    have hlb := World.block_lt_of_cell? _ _ c0
    obtain ⟨n0_0, n0_1, n0_2, n0_3, n0_4, n0_5⟩ := hC0.later hB_1
    have hlk0 := World.block_lt_of_cell? _ _ n0_0
    have hlX := WrT.lt hW_1
    go_wp2_with fail
    have hI := wBetween_ok ⟨#[40]⟩ ⟨#[41]⟩ (T.kids.drop 1) 0 (some ⟨b, off, none⟩) 0 w0 X dep _ _ (by rw [List.length_drop]; omega) HKT.out HFT.out (by omega) (by omega) hB_1 hW_1 (by have h := HLN.out; (try simp only [List.length_append, List.length_cons, List.length_nil, List.length_singleton] at h); (try simp only [List.length_append, List.length_cons, List.length_nil, List.length_singleton]); omega)
    go_at_call 143
    refine hI.mono ?_
    rintro e w_2 ⟨rfl, hW_2, hk_2⟩
    have hK_2 := hK_1.trans hk_2
    have hbx := box_keep hk_2 hbx hbX
    clear hI
    have hB_2 : Below w0.heap.size w0 w_2 := hBs.trans hK_2.b
    obtain ⟨c0, c1, c2, c3, c4, c5⟩ := (cells_box hbx).box
    have hlb := World.block_lt_of_cell? _ _ c0
    obtain ⟨n0_0, n0_1, n0_2, n0_3, n0_4, n0_5⟩ := hC0.later hB_2
    have hlk0 := World.block_lt_of_cell? _ _ n0_0
    have hlX := WrT.lt hW_2
    go_wp2_with fail
    ((try simp only [Exit.inBlock, Exit.then]); first | refine bodyPost_end (results_none rfl _ _ _) rfl ?_ | refine bodyPost_ret (results_none rfl _ _ _) rfl ?_)
    exact ⟨rfl, hW_2.eq (by rw [HTX.out]; try simp only [List.append_assoc, List.append_nil, List.nil_append, List.cons_append, List.singleton_append]), hK_2⟩
  · simp only [if_neg hd1] at HKT
    obtain ⟨c0, c1, c2, c3, c4, c5⟩ := (cells_box hbx).box
    have hlb := World.block_lt_of_cell? _ _ c0
    obtain ⟨n0_0, n0_1, n0_2, n0_3, n0_4, n0_5⟩ := hC0.later hBb
    have hlk0 := World.block_lt_of_cell? _ _ n0_0
    have hlX := WrT.lt hWb
    unfold ndV
    go_enter Tryz.func146, Tryz.ntmps146
    go_wp2_with fail
    have hI := HF0.out A0 c0' K0 d0 _ _ HN0.out hBb hWb (by have h := HLN.out; (try simp only [List.length_append, List.length_cons, List.length_nil, List.length_singleton] at h); (try simp only [List.length_append, List.length_cons, List.length_nil, List.length_singleton]); omega)
    unfold ndV at hI
    go_at_call 81
    refine hI.mono ?_
    rintro e w_1 ⟨rfl, hW_1, hk_1⟩
    have hK_1 := hK0.trans hk_1
    have hbx := box_keep hk_1 hbx hbX
    clear hI
    have hB_1 : Below w0.heap.size w0 w_1 := hBs.trans hK_1.b
    obtain ⟨c0, c1, c2, c3, c4, c5⟩ := (cells_box hbx).box
    have hlb := World.block_lt_of_cell? _ _ c0
    obtain ⟨n0_0, n0_1, n0_2, n0_3, n0_4, n0_5⟩ := hC0.later hB_1
    have hlk0 := World.block_lt_of_cell? _ _ n0_0
    have hlX := WrT.lt hW_1
    go_wp2_with fail
    have hI := wBetween_ok ⟨#[40]⟩ ⟨#[41]⟩ (T.kids.drop 1) (T.kids.length - 1) (some ⟨b, off + 6, none⟩) (d - 1) w0 X dep _ _ (by rw [List.length_drop]) HKT.out HFT.out (by omega) (by omega) hB_1 hW_1 (by have h := HLN.out; (try simp only [List.length_append, List.length_cons, List.length_nil, List.length_singleton] at h); (try simp only [List.length_append, List.length_cons, List.length_nil, List.length_singleton]); omega)
    go_at_call 143
    refine hI.mono ?_
    rintro e w_2 ⟨rfl, hW_2, hk_2⟩
    have hK_2 := hK_1.trans hk_2
    have hbx := box_keep hk_2 hbx hbX
    clear hI
    have hB_2 : Below w0.heap.size w0 w_2 := hBs.trans hK_2.b
    obtain ⟨c0, c1, c2, c3, c4, c5⟩ := (cells_box hbx).box
    have hlb := World.block_lt_of_cell? _ _ c0
    obtain ⟨n0_0, n0_1, n0_2, n0_3, n0_4, n0_5⟩ := hC0.later hB_2
    have hlk0 := World.block_lt_of_cell? _ _ n0_0
    have hlX := WrT.lt hW_2
    go_wp2_with fail
    ((try simp only [Exit.inBlock, Exit.then]); first | refine bodyPost_end (results_none rfl _ _ _) rfl ?_ | refine bodyPost_ret (results_none rfl _ _ _) rfl ?_)
    exact ⟨rfl, hW_2.eq (by rw [HTX.out]; try simp only [List.append_assoc, List.append_nil, List.nil_append, List.cons_append, List.singleton_append]), hK_2⟩
end
section
set_option linter.unusedVariables false
set_option linter.unusedSimpArgs false
open Go.RowKit
set_option maxRecDepth 1000000
set_option maxHeartbeats 8000000 in
theorem we35a (D : Nat) (w0 : World) (X dep : Nat) (hE : EOk D w0 X dep) (hTg : TOk D w0 X dep) (T : Nd) (hk : T.kind = 35) (hone : T.kids.length = 1) (hT : Ex T) (hD : T.depth ≤ D + 1) (hWt : T.weight ≤ 1000000) : FSays 81 w0 X dep Nd.txt T := by
  intro A c K d l0 w hN hBs hW hlen
  have hts : T.txt = [40] ++ sepL com (T.kids.map Nd.txt) ++ [44, 41] := by
    obtain ⟨t0, hks⟩ := kids_1 hone
    rw [txt_eq]; simp [txtOf, hk, hks, gl, sepL]
  have HTX := Lib.hid hts
  have HLN := Lib.hid (show l0.length + ([40] ++ sepL com (T.kids.map Nd.txt) ++ [44, 41]).length ≤ 1000000000000 by rw [← hts]; exact hlen)
  have el : ((T.kids.length : Int) == 1) = true := by rw [hone]; rfl
  have z31 : (T.kind == 31) = false := by rw [hk]; rfl
  have z34 : (T.kind == 34) = false := by rw [hk]; rfl
  have z32 : (T.kind == 32) = false := by rw [hk]; rfl
  have z33 : (T.kind == 33) = false := by rw [hk]; rfl
  have z35 : (T.kind == 35) = true := by rw [hk]; rfl
  have z36 : (T.kind == 36) = false := by rw [hk]; rfl
  have z37 : (T.kind == 37) = false := by rw [hk]; rfl
  have z38 : (T.kind == 38) = false := by rw [hk]; rfl
  have z41 : (T.kind == 41) = false := by rw [hk]; rfl
  have z42 : (T.kind == 42) = false := by rw [hk]; rfl
  have z43 : (T.kind == 43) = false := by rw [hk]; rfl
  have z45 : (T.kind == 45) = false := by rw [hk]; rfl
  have z46 : (T.kind == 46) = false := by rw [hk]; rfl
  have z48 : (T.kind == 48) = false := by rw [hk]; rfl
  have z49 : (T.kind == 49) = false := by rw [hk]; rfl
  obtain ⟨hm1, hm2, hrm, hw32, hk1, hk2, hk64, ha64, hts', hKs⟩ := hN.parts
  have hk2' := hk2
  unfold maxLen at hm2 hk2 hts'
  obtain ⟨hk64a, hk64b⟩ := hk64
  obtain ⟨ha64a, ha64b⟩ := ha64
  have hB0 : w0.heap.size ≤ w.heap.size := hBs.size
  have hbX : X < w.heap.size := WrT.lt hW
  have hK0 : WK w0.heap.size X w (w.alloc (.cells #[.int .i64 T.kind, .int .i64 T.pos, .string T.text, .bool T.neg, .slice A T.mag.length c, .slice K T.kids.length d] 27)) := (WK.refl _ _ _).alloc hB0 _
  have hWb := hW.alloc (.cells #[.int .i64 T.kind, .int .i64 T.pos, .string T.text, .bool T.neg, .slice A T.mag.length c, .slice K T.kids.length d] 27)
  have hBb : Below w0.heap.size w0 (w.alloc (.cells #[.int .i64 T.kind, .int .i64 T.pos, .string T.text, .bool T.neg, .slice A T.mag.length c, .slice K T.kids.length d] 27)) := hBs.trans hK0.b
  have hbx := heap_alloc_new w (.cells #[.int .i64 T.kind, .int .i64 T.pos, .string T.text, .bool T.neg, .slice A T.mag.length c, .slice K T.kids.length d] 27)
  have hsg : (w.alloc (.cells #[.int .i64 T.kind, .int .i64 T.pos, .string T.text, .bool T.neg, .slice A T.mag.length c, .slice K T.kids.length d] 27)).heap.size = w.heap.size + 1 := by simp
  have HFA := Lib.hid (fun (t : Nd) (ht : t ∈ T.kids) => hE t (ex_kids hT (by omega) (by omega) (by omega) t ht) (within_kidsM hD hWt t ht).1 (within_kidsM hD hWt t ht).2)
  have HKA := Lib.hid hKs
  clear hone
  clear hKs hN hlen hE hTg hT hD hWt hrm hw32 hk hts 
  obtain ⟨c0, c1, c2, c3, c4, c5⟩ := (cells_box hbx).box
  have hlb := World.block_lt_of_cell? _ _ c0
  have hlX := WrT.lt hWb
  unfold ndV
  go_enter Tryz.func81, Tryz.ntmps81
  go_wp2_with fail
  have hI := wBetween_ok ⟨#[40]⟩ ⟨#[44, 41]⟩ T.kids T.kids.length K d w0 X dep _ _ rfl HKA.out HFA.out hk1 hk2' hBb hWb (by have h := HLN.out; (try simp only [List.length_append, List.length_cons, List.length_nil, List.length_singleton] at h); (try simp only [List.length_append, List.length_cons, List.length_nil, List.length_singleton]); omega)
  go_at_call 143
  refine hI.mono ?_
  rintro e w_1 ⟨rfl, hW_1, hk_1⟩
  have hK_1 := hK0.trans hk_1
  have hbx := box_keep hk_1 hbx hbX
  clear hI
  have hB_1 : Below w0.heap.size w0 w_1 := hBs.trans hK_1.b
  obtain ⟨c0, c1, c2, c3, c4, c5⟩ := (cells_box hbx).box
  have hlb := World.block_lt_of_cell? _ _ c0
  have hlX := WrT.lt hW_1
  go_wp2_with fail
  ((try simp only [Exit.inBlock, Exit.then]); first | refine bodyPost_end (results_none rfl _ _ _) rfl ?_ | refine bodyPost_ret (results_none rfl _ _ _) rfl ?_)
  exact ⟨rfl, hW_1.eq (by rw [HTX.out]; try simp only [List.append_assoc, List.append_nil, List.nil_append, List.cons_append, List.singleton_append]), hK_1⟩
set_option maxHeartbeats 8000000 in
theorem we35b (D : Nat) (w0 : World) (X dep : Nat) (hE : EOk D w0 X dep) (hTg : TOk D w0 X dep) (T : Nd) (hk : T.kind = 35) (hone : ¬ T.kids.length = 1) (hT : Ex T) (hD : T.depth ≤ D + 1) (hWt : T.weight ≤ 1000000) : FSays 81 w0 X dep Nd.txt T := by
  intro A c K d l0 w hN hBs hW hlen
  have hts : T.txt = [40] ++ sepL com (T.kids.map Nd.txt) ++ [41] := by rw [txt_eq]; simp [txtOf, hk, hone]
  have HTX := Lib.hid hts
  have HLN := Lib.hid (show l0.length + ([40] ++ sepL com (T.kids.map Nd.txt) ++ [41]).length ≤ 1000000000000 by rw [← hts]; exact hlen)
  have el : ((T.kids.length : Int) == 1) = false := beq_eq_false_iff_ne.2 (by omega)
  have z31 : (T.kind == 31) = false := by rw [hk]; rfl
  have z34 : (T.kind == 34) = false := by rw [hk]; rfl
  have z32 : (T.kind == 32) = false := by rw [hk]; rfl
  have z33 : (T.kind == 33) = false := by rw [hk]; rfl
  have z35 : (T.kind == 35) = true := by rw [hk]; rfl
  have z36 : (T.kind == 36) = false := by rw [hk]; rfl
  have z37 : (T.kind == 37) = false := by rw [hk]; rfl
  have z38 : (T.kind == 38) = false := by rw [hk]; rfl
  have z41 : (T.kind == 41) = false := by rw [hk]; rfl
  have z42 : (T.kind == 42) = false := by rw [hk]; rfl
  have z43 : (T.kind == 43) = false := by rw [hk]; rfl
  have z45 : (T.kind == 45) = false := by rw [hk]; rfl
  have z46 : (T.kind == 46) = false := by rw [hk]; rfl
  have z48 : (T.kind == 48) = false := by rw [hk]; rfl
  have z49 : (T.kind == 49) = false := by rw [hk]; rfl
  obtain ⟨hm1, hm2, hrm, hw32, hk1, hk2, hk64, ha64, hts', hKs⟩ := hN.parts
  have hk2' := hk2
  unfold maxLen at hm2 hk2 hts'
  obtain ⟨hk64a, hk64b⟩ := hk64
  obtain ⟨ha64a, ha64b⟩ := ha64
  have hB0 : w0.heap.size ≤ w.heap.size := hBs.size
  have hbX : X < w.heap.size := WrT.lt hW
  have hK0 : WK w0.heap.size X w (w.alloc (.cells #[.int .i64 T.kind, .int .i64 T.pos, .string T.text, .bool T.neg, .slice A T.mag.length c, .slice K T.kids.length d] 27)) := (WK.refl _ _ _).alloc hB0 _
  have hWb := hW.alloc (.cells #[.int .i64 T.kind, .int .i64 T.pos, .string T.text, .bool T.neg, .slice A T.mag.length c, .slice K T.kids.length d] 27)
  have hBb : Below w0.heap.size w0 (w.alloc (.cells #[.int .i64 T.kind, .int .i64 T.pos, .string T.text, .bool T.neg, .slice A T.mag.length c, .slice K T.kids.length d] 27)) := hBs.trans hK0.b
  have hbx := heap_alloc_new w (.cells #[.int .i64 T.kind, .int .i64 T.pos, .string T.text, .bool T.neg, .slice A T.mag.length c, .slice K T.kids.length d] 27)
  have hsg : (w.alloc (.cells #[.int .i64 T.kind, .int .i64 T.pos, .string T.text, .bool T.neg, .slice A T.mag.length c, .slice K T.kids.length d] 27)).heap.size = w.heap.size + 1 := by simp
  have HFA := Lib.hid (fun (t : Nd) (ht : t ∈ T.kids) => hE t (ex_kids hT (by omega) (by omega) (by omega) t ht) (within_kidsM hD hWt t ht).1 (within_kidsM hD hWt t ht).2)
  have HKA := Lib.hid hKs
  clear hone
  clear hKs hN hlen hE hTg hT hD hWt hrm hw32 hk hts 
  obtain ⟨c0, c1, c2, c3, c4, c5⟩ := (cells_box hbx).box
  have hlb := World.block_lt_of_cell? _ _ c0
  have hlX := WrT.lt hWb
  unfold ndV
  go_enter Tryz.func81, Tryz.ntmps81
  go_wp2_with fail
  have hI := wBetween_ok ⟨#[40]⟩ ⟨#[41]⟩ T.kids T.kids.length K d w0 X dep _ _ rfl HKA.out HFA.out hk1 hk2' hBb hWb (by have h := HLN.out; (try simp only [List.length_append, List.length_cons, List.length_nil, List.length_singleton] at h); (try simp only [List.length_append, List.length_cons, List.length_nil, List.length_singleton]); omega)
  go_at_call 143
  refine hI.mono ?_
  rintro e w_1 ⟨rfl, hW_1, hk_1⟩
  have hK_1 := hK0.trans hk_1
  have hbx := box_keep hk_1 hbx hbX
  clear hI
  have hB_1 : Below w0.heap.size w0 w_1 := hBs.trans hK_1.b
  obtain ⟨c0, c1, c2, c3, c4, c5⟩ := (cells_box hbx).box
  have hlb := World.block_lt_of_cell? _ _ c0
  have hlX := WrT.lt hW_1
  go_wp2_with fail
  ((try simp only [Exit.inBlock, Exit.then]); first | refine bodyPost_end (results_none rfl _ _ _) rfl ?_ | refine bodyPost_ret (results_none rfl _ _ _) rfl ?_)
  exact ⟨rfl, hW_1.eq (by rw [HTX.out]; try simp only [List.append_assoc, List.append_nil, List.nil_append, List.cons_append, List.singleton_append]), hK_1⟩
end
section
set_option linter.unusedVariables false
set_option linter.unusedSimpArgs false
open Go.RowKit
set_option maxRecDepth 1000000
set_option maxHeartbeats 8000000 in
theorem we41 (D : Nat) (w0 : World) (X dep : Nat) (hE : EOk D w0 X dep) (hTg : TOk D w0 X dep) (T : Nd) (hk : T.kind = 41) (hT : Ex T) (hD : T.depth ≤ D + 1) (hWt : T.weight ≤ 1000000) : FSays 81 w0 X dep Nd.txt T := by
  intro A c K d l0 w hN hBs hW hlen
  have hts : T.txt = [91] ++ gl (T.kids.map Nd.txt) 0 ++ behindL (T.kids.map Nd.txt) ++ [93] := by rw [txt_eq]; simp [txtOf, hk]
  have HTX := Lib.hid hts
  have HLN := Lib.hid (show l0.length + ([91] ++ gl (T.kids.map Nd.txt) 0 ++ behindL (T.kids.map Nd.txt) ++ [93]).length ≤ 1000000000000 by rw [← hts]; exact hlen)
  have z31 : (T.kind == 31) = false := by rw [hk]; rfl
  have z34 : (T.kind == 34) = false := by rw [hk]; rfl
  have z32 : (T.kind == 32) = false := by rw [hk]; rfl
  have z33 : (T.kind == 33) = false := by rw [hk]; rfl
  have z35 : (T.kind == 35) = false := by rw [hk]; rfl
  have z36 : (T.kind == 36) = false := by rw [hk]; rfl
  have z37 : (T.kind == 37) = false := by rw [hk]; rfl
  have z38 : (T.kind == 38) = false := by rw [hk]; rfl
  have z41 : (T.kind == 41) = true := by rw [hk]; rfl
  have z42 : (T.kind == 42) = false := by rw [hk]; rfl
  have z43 : (T.kind == 43) = false := by rw [hk]; rfl
  have z45 : (T.kind == 45) = false := by rw [hk]; rfl
  have z46 : (T.kind == 46) = false := by rw [hk]; rfl
  have z48 : (T.kind == 48) = false := by rw [hk]; rfl
  have z49 : (T.kind == 49) = false := by rw [hk]; rfl
  obtain ⟨hm1, hm2, hrm, hw32, hk1, hk2, hk64, ha64, hts', hKs⟩ := hN.parts
  have hk2' := hk2
  unfold maxLen at hm2 hk2 hts'
  obtain ⟨hk64a, hk64b⟩ := hk64
  obtain ⟨ha64a, ha64b⟩ := ha64
  have hB0 : w0.heap.size ≤ w.heap.size := hBs.size
  have hbX : X < w.heap.size := WrT.lt hW
  have hK0 : WK w0.heap.size X w (w.alloc (.cells #[.int .i64 T.kind, .int .i64 T.pos, .string T.text, .bool T.neg, .slice A T.mag.length c, .slice K T.kids.length d] 27)) := (WK.refl _ _ _).alloc hB0 _
  have hWb := hW.alloc (.cells #[.int .i64 T.kind, .int .i64 T.pos, .string T.text, .bool T.neg, .slice A T.mag.length c, .slice K T.kids.length d] 27)
  have hBb : Below w0.heap.size w0 (w.alloc (.cells #[.int .i64 T.kind, .int .i64 T.pos, .string T.text, .bool T.neg, .slice A T.mag.length c, .slice K T.kids.length d] 27)) := hBs.trans hK0.b
  have hbx := heap_alloc_new w (.cells #[.int .i64 T.kind, .int .i64 T.pos, .string T.text, .bool T.neg, .slice A T.mag.length c, .slice K T.kids.length d] 27)
  have hsg : (w.alloc (.cells #[.int .i64 T.kind, .int .i64 T.pos, .string T.text, .bool T.neg, .slice A T.mag.length c, .slice K T.kids.length d] 27)).heap.size = w.heap.size + 1 := by simp
  have HKA := Lib.hid hKs
  have hcx := cmp_ex hT (by omega)
  have HC3 := Lib.hid hcx.1
  have HEX := Lib.hid hcx.2
  have HTE := Lib.hid (te_kids hT.te)
  have HWI := Lib.hid (within_kidsM hD hWt)
  have HE := Lib.hid hE
  have HTg := Lib.hid hTg
  clear hcx
  clear hKs hN hlen hE hTg hT hD hWt hrm hw32 hk hts 
  obtain ⟨c0, c1, c2, c3, c4, c5⟩ := (cells_box hbx).box
  have hlb := World.block_lt_of_cell? _ _ c0
  have hlX := WrT.lt hWb
  unfold ndV
  go_enter Tryz.func81, Tryz.ntmps81
  go_wp2_with fail
  have hI := wComp_ok D ⟨#[91]⟩ ⟨#[93]⟩ T.kids T.kids.length K d w0 X dep _ _ rfl HC3.out HKA.out HTg.out HE.out HTE.out HEX.out HWI.out hk1 hk2' hBb hWb _ rfl (by have h := HLN.out; (try simp only [List.length_append, List.length_cons, List.length_nil, List.length_singleton] at h); (try simp only [List.length_append, List.length_cons, List.length_nil, List.length_singleton]); omega)
  go_at_call 144
  refine hI.mono ?_
  rintro e w_1 ⟨rfl, hW_1, hk_1⟩
  have hK_1 := hK0.trans hk_1
  have hbx := box_keep hk_1 hbx hbX
  clear hI
  have hB_1 : Below w0.heap.size w0 w_1 := hBs.trans hK_1.b
  obtain ⟨c0, c1, c2, c3, c4, c5⟩ := (cells_box hbx).box
  have hlb := World.block_lt_of_cell? _ _ c0
  have hlX := WrT.lt hW_1
  go_wp2_with fail
  ((try simp only [Exit.inBlock, Exit.then]); first | refine bodyPost_end (results_none rfl _ _ _) rfl ?_ | refine bodyPost_ret (results_none rfl _ _ _) rfl ?_)
  exact ⟨rfl, hW_1.eq (by rw [HTX.out]; try simp only [List.append_assoc, List.append_nil, List.nil_append, List.cons_append, List.singleton_append]), hK_1⟩
set_option maxHeartbeats 8000000 in
theorem we42 (D : Nat) (w0 : World) (X dep : Nat) (hE : EOk D w0 X dep) (hTg : TOk D w0 X dep) (T : Nd) (hk : T.kind = 42) (hT : Ex T) (hD : T.depth ≤ D + 1) (hWt : T.weight ≤ 1000000) : FSays 81 w0 X dep Nd.txt T := by
  intro A c K d l0 w hN hBs hW hlen
  have hts : T.txt = [123] ++ gl (T.kids.map Nd.txt) 0 ++ behindL (T.kids.map Nd.txt) ++ [125] := by rw [txt_eq]; simp [txtOf, hk]
  have HTX := Lib.hid hts
  have HLN := Lib.hid (show l0.length + ([123] ++ gl (T.kids.map Nd.txt) 0 ++ behindL (T.kids.map Nd.txt) ++ [125]).length ≤ 1000000000000 by rw [← hts]; exact hlen)
  have z31 : (T.kind == 31) = false := by rw [hk]; rfl
  have z34 : (T.kind == 34) = false := by rw [hk]; rfl
  have z32 : (T.kind == 32) = false := by rw [hk]; rfl
  have z33 : (T.kind == 33) = false := by rw [hk]; rfl
  have z35 : (T.kind == 35) = false := by rw [hk]; rfl
  have z36 : (T.kind == 36) = false := by rw [hk]; rfl
  have z37 : (T.kind == 37) = false := by rw [hk]; rfl
  have z38 : (T.kind == 38) = false := by rw [hk]; rfl
  have z41 : (T.kind == 41) = false := by rw [hk]; rfl
  have z42 : (T.kind == 42) = true := by rw [hk]; rfl
  have z43 : (T.kind == 43) = false := by rw [hk]; rfl
  have z45 : (T.kind == 45) = false := by rw [hk]; rfl
  have z46 : (T.kind == 46) = false := by rw [hk]; rfl
  have z48 : (T.kind == 48) = false := by rw [hk]; rfl
  have z49 : (T.kind == 49) = false := by rw [hk]; rfl
  obtain ⟨hm1, hm2, hrm, hw32, hk1, hk2, hk64, ha64, hts', hKs⟩ := hN.parts
  have hk2' := hk2
  unfold maxLen at hm2 hk2 hts'
  obtain ⟨hk64a, hk64b⟩ := hk64
  obtain ⟨ha64a, ha64b⟩ := ha64
  have hB0 : w0.heap.size ≤ w.heap.size := hBs.size
  have hbX : X < w.heap.size := WrT.lt hW
  have hK0 : WK w0.heap.size X w (w.alloc (.cells #[.int .i64 T.kind, .int .i64 T.pos, .string T.text, .bool T.neg, .slice A T.mag.length c, .slice K T.kids.length d] 27)) := (WK.refl _ _ _).alloc hB0 _
  have hWb := hW.alloc (.cells #[.int .i64 T.kind, .int .i64 T.pos, .string T.text, .bool T.neg, .slice A T.mag.length c, .slice K T.kids.length d] 27)
  have hBb : Below w0.heap.size w0 (w.alloc (.cells #[.int .i64 T.kind, .int .i64 T.pos, .string T.text, .bool T.neg, .slice A T.mag.length c, .slice K T.kids.length d] 27)) := hBs.trans hK0.b
  have hbx := heap_alloc_new w (.cells #[.int .i64 T.kind, .int .i64 T.pos, .string T.text, .bool T.neg, .slice A T.mag.length c, .slice K T.kids.length d] 27)
  have hsg : (w.alloc (.cells #[.int .i64 T.kind, .int .i64 T.pos, .string T.text, .bool T.neg, .slice A T.mag.length c, .slice K T.kids.length d] 27)).heap.size = w.heap.size + 1 := by simp
  have HKA := Lib.hid hKs
  have hcx := cmp_ex hT (by omega)
  have HC3 := Lib.hid hcx.1
  have HEX := Lib.hid hcx.2
  have HTE := Lib.hid (te_kids hT.te)
  have HWI := Lib.hid (within_kidsM hD hWt)
  have HE := Lib.hid hE
  have HTg := Lib.hid hTg
  clear hcx
  clear hKs hN hlen hE hTg hT hD hWt hrm hw32 hk hts 
  obtain ⟨c0, c1, c2, c3, c4, c5⟩ := (cells_box hbx).box
  have hlb := World.block_lt_of_cell? _ _ c0
  have hlX := WrT.lt hWb
  unfold ndV
  go_enter Tryz.func81, Tryz.ntmps81
  go_wp2_with fail
  have hI := wComp_ok D ⟨#[123]⟩ ⟨#[125]⟩ T.kids T.kids.length K d w0 X dep _ _ rfl HC3.out HKA.out HTg.out HE.out HTE.out HEX.out HWI.out hk1 hk2' hBb hWb _ rfl (by have h := HLN.out; (try simp only [List.length_append, List.length_cons, List.length_nil, List.length_singleton] at h); (try simp only [List.length_append, List.length_cons, List.length_nil, List.length_singleton]); omega)
  go_at_call 144
  refine hI.mono ?_
  rintro e w_1 ⟨rfl, hW_1, hk_1⟩
  have hK_1 := hK0.trans hk_1
  have hbx := box_keep hk_1 hbx hbX
  clear hI
  have hB_1 : Below w0.heap.size w0 w_1 := hBs.trans hK_1.b
  obtain ⟨c0, c1, c2, c3, c4, c5⟩ := (cells_box hbx).box
  have hlb := World.block_lt_of_cell? _ _ c0
  have hlX := WrT.lt hW_1
  go_wp2_with fail
  ((try simp only [Exit.inBlock, Exit.then]); first | refine bodyPost_end (results_none rfl _ _ _) rfl ?_ | refine bodyPost_ret (results_none rfl _ _ _) rfl ?_)
  exact ⟨rfl, hW_1.eq (by rw [HTX.out]; try simp only [List.append_assoc, List.append_nil, List.nil_append, List.cons_append, List.singleton_append]), hK_1⟩
set_option maxHeartbeats 8000000 in
theorem we43 (D : Nat) (w0 : World) (X dep : Nat) (hE : EOk D w0 X dep) (hTg : TOk D w0 X dep) (T : Nd) (hk : T.kind = 43) (hT : Ex T) (hD : T.depth ≤ D + 1) (hWt : T.weight ≤ 1000000) : FSays 81 w0 X dep Nd.txt T := by
  intro A c K d l0 w hN hBs hW hlen
  have hts : T.txt = [123] ++ gl (T.kids.map Nd.txt) 0 ++ behindL (T.kids.map Nd.txt) ++ [125] := by rw [txt_eq]; simp [txtOf, hk]
  have HTX := Lib.hid hts
  have HLN := Lib.hid (show l0.length + ([123] ++ gl (T.kids.map Nd.txt) 0 ++ behindL (T.kids.map Nd.txt) ++ [125]).length ≤ 1000000000000 by rw [← hts]; exact hlen)
  have z31 : (T.kind == 31) = false := by rw [hk]; rfl
  have z34 : (T.kind == 34) = false := by rw [hk]; rfl
  have z32 : (T.kind == 32) = false := by rw [hk]; rfl
  have z33 : (T.kind == 33) = false := by rw [hk]; rfl
  have z35 : (T.kind == 35) = false := by rw [hk]; rfl
  have z36 : (T.kind == 36) = false := by rw [hk]; rfl
  have z37 : (T.kind == 37) = false := by rw [hk]; rfl
  have z38 : (T.kind == 38) = false := by rw [hk]; rfl
  have z41 : (T.kind == 41) = false := by rw [hk]; rfl
  have z42 : (T.kind == 42) = false := by rw [hk]; rfl
  have z43 : (T.kind == 43) = true := by rw [hk]; rfl
  have z45 : (T.kind == 45) = false := by rw [hk]; rfl
  have z46 : (T.kind == 46) = false := by rw [hk]; rfl
  have z48 : (T.kind == 48) = false := by rw [hk]; rfl
  have z49 : (T.kind == 49) = false := by rw [hk]; rfl
  obtain ⟨hm1, hm2, hrm, hw32, hk1, hk2, hk64, ha64, hts', hKs⟩ := hN.parts
  have hk2' := hk2
  unfold maxLen at hm2 hk2 hts'
  obtain ⟨hk64a, hk64b⟩ := hk64
  obtain ⟨ha64a, ha64b⟩ := ha64
  have hB0 : w0.heap.size ≤ w.heap.size := hBs.size
  have hbX : X < w.heap.size := WrT.lt hW
  have hK0 : WK w0.heap.size X w (w.alloc (.cells #[.int .i64 T.kind, .int .i64 T.pos, .string T.text, .bool T.neg, .slice A T.mag.length c, .slice K T.kids.length d] 27)) := (WK.refl _ _ _).alloc hB0 _
  have hWb := hW.alloc (.cells #[.int .i64 T.kind, .int .i64 T.pos, .string T.text, .bool T.neg, .slice A T.mag.length c, .slice K T.kids.length d] 27)
  have hBb : Below w0.heap.size w0 (w.alloc (.cells #[.int .i64 T.kind, .int .i64 T.pos, .string T.text, .bool T.neg, .slice A T.mag.length c, .slice K T.kids.length d] 27)) := hBs.trans hK0.b
  have hbx := heap_alloc_new w (.cells #[.int .i64 T.kind, .int .i64 T.pos, .string T.text, .bool T.neg, .slice A T.mag.length c, .slice K T.kids.length d] 27)
  have hsg : (w.alloc (.cells #[.int .i64 T.kind, .int .i64 T.pos, .string T.text, .bool T.neg, .slice A T.mag.length c, .slice K T.kids.length d] 27)).heap.size = w.heap.size + 1 := by simp
  have HKA := Lib.hid hKs
  have hcx := cmp_ex hT (by omega)
  have HC3 := Lib.hid hcx.1
  have HEX := Lib.hid hcx.2
  have HTE := Lib.hid (te_kids hT.te)
  have HWI := Lib.hid (within_kidsM hD hWt)
  have HE := Lib.hid hE
  have HTg := Lib.hid hTg
  clear hcx
  clear hKs hN hlen hE hTg hT hD hWt hrm hw32 hk hts 
  obtain ⟨c0, c1, c2, c3, c4, c5⟩ := (cells_box hbx).box
  have hlb := World.block_lt_of_cell? _ _ c0
  have hlX := WrT.lt hWb
  unfold ndV
  go_enter Tryz.func81, Tryz.ntmps81
  go_wp2_with fail
  have hI := wComp_ok D ⟨#[123]⟩ ⟨#[125]⟩ T.kids T.kids.length K d w0 X dep _ _ rfl HC3.out HKA.out HTg.out HE.out HTE.out HEX.out HWI.out hk1 hk2' hBb hWb _ rfl (by have h := HLN.out; (try simp only [List.length_append, List.length_cons, List.length_nil, List.length_singleton] at h); (try simp only [List.length_append, List.length_cons, List.length_nil, List.length_singleton]); omega)
  go_at_call 144
  refine hI.mono ?_
  rintro e w_1 ⟨rfl, hW_1, hk_1⟩
  have hK_1 := hK0.trans hk_1
  have hbx := box_keep hk_1 hbx hbX
  clear hI
  have hB_1 : Below w0.heap.size w0 w_1 := hBs.trans hK_1.b
  obtain ⟨c0, c1, c2, c3, c4, c5⟩ := (cells_box hbx).box
  have hlb := World.block_lt_of_cell? _ _ c0
  have hlX := WrT.lt hW_1
  go_wp2_with fail
  ((try simp only [Exit.inBlock, Exit.then]); first | refine bodyPost_end (results_none rfl _ _ _) rfl ?_ | refine bodyPost_ret (results_none rfl _ _ _) rfl ?_)
  exact ⟨rfl, hW_1.eq (by rw [HTX.out]; try simp only [List.append_assoc, List.append_nil, List.nil_append, List.cons_append, List.singleton_append]), hK_1⟩
end
section
set_option linter.unusedVariables false
set_option linter.unusedSimpArgs false
open Go.RowKit
set_option maxRecDepth 1000000
set_option maxHeartbeats 8000000 in
theorem wp53a (D : Nat) (w0 : World) (X dep : Nat) (hE : EOk D w0 X dep) (hTg : TOk D w0 X dep) (T : Nd) (hk : T.kind = 53) (hq0 : ∀ t, T.kids[0]? = some t → t.kind = 32) (hT : Ex T) (hD : T.depth ≤ D + 1) (hWt : T.weight ≤ 1000000) : FSays 146 w0 X dep Nd.txt T := by
  intro A c K d l0 w hN hBs hW hlen
  have hlen3 : T.kids.length = 1 := len_row hk hT.1 (tx := .name) (L := [.expr]) rfl (by decide)
  obtain ⟨t0, hks⟩ := kids_1 (l := T.kids) hlen3
  have hg0 : T.kids[0]? = some t0 := by rw [hks]; rfl
  obtain ⟨b, off, A0, c0', K0, d0, hKe0, hC0, hN0⟩ := hN.kid hg0
  rw [Nat.zero_mul, Nat.add_zero] at hC0
  subst hKe0
  have hd0 : t0.depth ≤ D ∧ t0.weight ≤ 1000000 := within_kidsM hD hWt t0 (List.mem_of_getElem? hg0)
  have HF0 := Lib.hid (hE t0 (ex_kids hT (by omega) (by omega) (by omega) t0 (List.mem_of_getElem? hg0)) hd0.1 hd0.2)
  have HN0 := Lib.hid hN0
  have i0 : (0 : Int) < (T.kids.length : Int) := by omega
  have i0' : 0 < T.kids.length := by omega
  have hts : T.txt = [40] ++ t0.txt ++ [41] ++ [46] ++ tx T := by
    have hq := hq0 t0 hg0
    rw [txt_eq, txtOf, hks]; simp [hk, gl, hq]
  have HTX := Lib.hid hts
  have HLN := Lib.hid (show l0.length + ([40] ++ t0.txt ++ [41] ++ [46] ++ tx T).length ≤ 1000000000000 by rw [← hts]; exact hlen)
  have z39 : (T.kind == 39) = false := by rw [hk]; rfl
  have z40 : (T.kind == 40) = false := by rw [hk]; rfl
  have z52 : (T.kind == 52) = false := by rw [hk]; rfl
  have z44 : (T.kind == 44) = false := by rw [hk]; rfl
  have z47 : (T.kind == 47) = false := by rw [hk]; rfl
  have z50 : (T.kind == 50) = false := by rw [hk]; rfl
  have z51 : (T.kind == 51) = false := by rw [hk]; rfl
  have z53 : (T.kind == 53) = true := by rw [hk]; rfl
  have z54 : (T.kind == 54) = false := by rw [hk]; rfl
  obtain ⟨hm1, hm2, hrm, hw32, hk1, hk2, hk64, ha64, hts', hKs⟩ := hN.parts
  have hk2' := hk2
  unfold maxLen at hm2 hk2 hts'
  obtain ⟨hk64a, hk64b⟩ := hk64
  obtain ⟨ha64a, ha64b⟩ := ha64
  have hB0 : w0.heap.size ≤ w.heap.size := hBs.size
  have hbX : X < w.heap.size := WrT.lt hW
  have hK0 : WK w0.heap.size X w (w.alloc (.cells #[.int .i64 T.kind, .int .i64 T.pos, .string T.text, .bool T.neg, .slice A T.mag.length c, .slice (some ⟨b, off, none⟩) T.kids.length d] 27)) := (WK.refl _ _ _).alloc hB0 _
  have hWb := hW.alloc (.cells #[.int .i64 T.kind, .int .i64 T.pos, .string T.text, .bool T.neg, .slice A T.mag.length c, .slice (some ⟨b, off, none⟩) T.kids.length d] 27)
  have hBb : Below w0.heap.size w0 (w.alloc (.cells #[.int .i64 T.kind, .int .i64 T.pos, .string T.text, .bool T.neg, .slice A T.mag.length c, .slice (some ⟨b, off, none⟩) T.kids.length d] 27)) := hBs.trans hK0.b
  have hbx := heap_alloc_new w (.cells #[.int .i64 T.kind, .int .i64 T.pos, .string T.text, .bool T.neg, .slice A T.mag.length c, .slice (some ⟨b, off, none⟩) T.kids.length d] 27)
  have hsg : (w.alloc (.cells #[.int .i64 T.kind, .int .i64 T.pos, .string T.text, .bool T.neg, .slice A T.mag.length c, .slice (some ⟨b, off, none⟩) T.kids.length d] 27)).heap.size = w.heap.size + 1 := by simp
  have hq : t0.kind = 32 := hq0 t0 hg0
  have eq : (t0.kind == 32) = true := by simpa using hq
  have HSP := Lib.hid (show sepL com (T.kids.map Nd.txt) = t0.txt by rw [hks]; simp [sepL])
  have HFA := Lib.hid (fun (t : Nd) (ht : t ∈ T.kids) => hE t (ex_kids hT (by omega) (by omega) (by omega) t ht) (within_kidsM hD hWt t ht).1 (within_kidsM hD hWt t ht).2)
  have HKA := Lib.hid hKs
  clear hq hq0
  clear hKs hN hlen hE hTg hT hD hWt hrm hw32 hk hts hks hlen3 hg0 hN0 hd0
  obtain ⟨c0, c1, c2, c3, c4, c5⟩ := (cells_box hbx).box
  have hlb := World.block_lt_of_cell? _ _ c0
  obtain ⟨n0_0, n0_1, n0_2, n0_3, n0_4, n0_5⟩ := hC0.later hBb
  have hlk0 := World.block_lt_of_cell? _ _ n0_0
  have hlX := WrT.lt hWb
  unfold ndV
  go_enter Tryz.func146, Tryz.ntmps146
  go_wp2_with fail
  have hI := wBetween_ok ⟨#[40]⟩ ⟨#[41]⟩ T.kids T.kids.length (some ⟨b, off, none⟩) d w0 X dep _ _ rfl HKA.out HFA.out hk1 hk2' hBb hWb (by have h := HLN.out; rw [HSP.out]; (try simp only [List.length_append, List.length_cons, List.length_nil] at h); (try simp only [List.length_append, List.length_cons, List.length_nil]); omega)
  go_at_call 143
  refine hI.mono ?_
  rintro e w_1 ⟨rfl, hW_1, hk_1⟩
  have hK_1 := hK0.trans hk_1
  have hbx := box_keep hk_1 hbx hbX
  clear hI
  have hB_1 : Below w0.heap.size w0 w_1 := hBs.trans hK_1.b
  obtain ⟨c0, c1, c2, c3, c4, c5⟩ := (cells_box hbx).box
  have hlb := World.block_lt_of_cell? _ _ c0
  obtain ⟨n0_0, n0_1, n0_2, n0_3, n0_4, n0_5⟩ := hC0.later hB_1
  have hlk0 := World.block_lt_of_cell? _ _ n0_0
  have hlX := WrT.lt hW_1
  have hW_1 := hW_1.eq (show _ = l0 ++ ([40] ++ t0.txt ++ [41]) by rw [HSP.out])
  go_wp2_with fail
  have hWa := hW_1.alloc (.cells #[.string { data := #[46] }, .string (T.text)] 9)
  have hKa := hK_1.alloc (Nat.le_trans hB0 hK_1.b.size) (.cells #[.string { data := #[46] }, .string (T.text)] 9)
  have hbxa := (Lib.alloc_old _ (.cells #[.string { data := #[46] }, .string (T.text)] 9) _ hlb).trans hbx
  go_at_call 84
  refine (wSayT_ok w0.heap.size X dep _ ([46] ++ tx T) [⟨#[46]⟩, T.text] 2 _ _ hWa rfl (WrT.lt hW_1) (heap_alloc_new _ _) (by simp [tx]) (by decide) (by have h := HLN.out; (try simp only [List.length_append, List.length_cons, List.length_nil, List.length_singleton] at h); (try simp only [List.length_append, List.length_cons, List.length_nil, List.length_singleton]); omega) (Nat.le_trans hB0 hKa.b.size)).mono ?_
  rintro e w_2 ⟨rfl, hW_2, hk_2⟩
  have hK_2 := hKa.trans hk_2
  have hbx := box_keep hk_2 hbxa hbX
  have hB_2 : Below w0.heap.size w0 w_2 := hBs.trans hK_2.b
  obtain ⟨c0, c1, c2, c3, c4, c5⟩ := (cells_box hbx).box
  have hlb := World.block_lt_of_cell? _ _ c0
  obtain ⟨n0_0, n0_1, n0_2, n0_3, n0_4, n0_5⟩ := hC0.later hB_2
  have hlk0 := World.block_lt_of_cell? _ _ n0_0
  have hlX := WrT.lt hW_2
  go_wp2_with fail
  ((try simp only [Exit.inBlock, Exit.then]); first | refine bodyPost_end (results_none rfl _ _ _) rfl ?_ | refine bodyPost_ret (results_none rfl _ _ _) rfl ?_)
  exact ⟨rfl, hW_2.eq (by rw [HTX.out]; try simp only [List.append_assoc, List.append_nil, List.nil_append, List.cons_append, List.singleton_append]), hK_2⟩
set_option maxHeartbeats 8000000 in
theorem wp53b (D : Nat) (w0 : World) (X dep : Nat) (hE : EOk D w0 X dep) (hTg : TOk D w0 X dep) (T : Nd) (hk : T.kind = 53) (hq0 : ∀ t, T.kids[0]? = some t → ¬ t.kind = 32) (hT : Ex T) (hD : T.depth ≤ D + 1) (hWt : T.weight ≤ 1000000) : FSays 146 w0 X dep Nd.txt T := by
  intro A c K d l0 w hN hBs hW hlen
  have hlen3 : T.kids.length = 1 := len_row hk hT.1 (tx := .name) (L := [.expr]) rfl (by decide)
  obtain ⟨t0, hks⟩ := kids_1 (l := T.kids) hlen3
  have hg0 : T.kids[0]? = some t0 := by rw [hks]; rfl
  obtain ⟨b, off, A0, c0', K0, d0, hKe0, hC0, hN0⟩ := hN.kid hg0
  rw [Nat.zero_mul, Nat.add_zero] at hC0
  subst hKe0
  have hd0 : t0.depth ≤ D ∧ t0.weight ≤ 1000000 := within_kidsM hD hWt t0 (List.mem_of_getElem? hg0)
  have HF0 := Lib.hid (hE t0 (ex_kids hT (by omega) (by omega) (by omega) t0 (List.mem_of_getElem? hg0)) hd0.1 hd0.2)
  have HN0 := Lib.hid hN0
  have i0 : (0 : Int) < (T.kids.length : Int) := by omega
  have i0' : 0 < T.kids.length := by omega
  have hts : T.txt = t0.txt ++ [46] ++ tx T := by
    have hq := hq0 t0 hg0
    rw [txt_eq, txtOf, hks]; simp [hk, gl, hq]
  have HTX := Lib.hid hts
  have HLN := Lib.hid (show l0.length + (t0.txt ++ [46] ++ tx T).length ≤ 1000000000000 by rw [← hts]; exact hlen)
  have z39 : (T.kind == 39) = false := by rw [hk]; rfl
  have z40 : (T.kind == 40) = false := by rw [hk]; rfl
  have z52 : (T.kind == 52) = false := by rw [hk]; rfl
  have z44 : (T.kind == 44) = false := by rw [hk]; rfl
  have z47 : (T.kind == 47) = false := by rw [hk]; rfl
  have z50 : (T.kind == 50) = false := by rw [hk]; rfl
  have z51 : (T.kind == 51) = false := by rw [hk]; rfl
  have z53 : (T.kind == 53) = true := by rw [hk]; rfl
  have z54 : (T.kind == 54) = false := by rw [hk]; rfl
  obtain ⟨hm1, hm2, hrm, hw32, hk1, hk2, hk64, ha64, hts', hKs⟩ := hN.parts
  have hk2' := hk2
  unfold maxLen at hm2 hk2 hts'
  obtain ⟨hk64a, hk64b⟩ := hk64
  obtain ⟨ha64a, ha64b⟩ := ha64
  have hB0 : w0.heap.size ≤ w.heap.size := hBs.size
  have hbX : X < w.heap.size := WrT.lt hW
  have hK0 : WK w0.heap.size X w (w.alloc (.cells #[.int .i64 T.kind, .int .i64 T.pos, .string T.text, .bool T.neg, .slice A T.mag.length c, .slice (some ⟨b, off, none⟩) T.kids.length d] 27)) := (WK.refl _ _ _).alloc hB0 _
  have hWb := hW.alloc (.cells #[.int .i64 T.kind, .int .i64 T.pos, .string T.text, .bool T.neg, .slice A T.mag.length c, .slice (some ⟨b, off, none⟩) T.kids.length d] 27)
  have hBb : Below w0.heap.size w0 (w.alloc (.cells #[.int .i64 T.kind, .int .i64 T.pos, .string T.text, .bool T.neg, .slice A T.mag.length c, .slice (some ⟨b, off, none⟩) T.kids.length d] 27)) := hBs.trans hK0.b
  have hbx := heap_alloc_new w (.cells #[.int .i64 T.kind, .int .i64 T.pos, .string T.text, .bool T.neg, .slice A T.mag.length c, .slice (some ⟨b, off, none⟩) T.kids.length d] 27)
  have hsg : (w.alloc (.cells #[.int .i64 T.kind, .int .i64 T.pos, .string T.text, .bool T.neg, .slice A T.mag.length c, .slice (some ⟨b, off, none⟩) T.kids.length d] 27)).heap.size = w.heap.size + 1 := by simp
  have hq : ¬ t0.kind = 32 := hq0 t0 hg0
  have eq : (t0.kind == 32) = false := by simpa using hq
  clear hq hq0
  clear hKs hN hlen hE hTg hT hD hWt hrm hw32 hk hts hks hlen3 hg0 hN0 hd0
  obtain ⟨c0, c1, c2, c3, c4, c5⟩ := (cells_box hbx).box
  have hlb := World.block_lt_of_cell? _ _ c0
  obtain ⟨n0_0, n0_1, n0_2, n0_3, n0_4, n0_5⟩ := hC0.later hBb
  have hlk0 := World.block_lt_of_cell? _ _ n0_0
  have hlX := WrT.lt hWb
  unfold ndV
  go_enter Tryz.func146, Tryz.ntmps146
  go_wp2_with fail
  have hI := HF0.out A0 c0' K0 d0 _ _ HN0.out hBb hWb (by have h := HLN.out; (try simp only [List.length_append, List.length_cons, List.length_nil, List.length_singleton] at h); (try simp only [List.length_append, List.length_cons, List.length_nil, List.length_singleton]); omega)
  unfold ndV at hI
  go_at_call 81
  refine hI.mono ?_
  rintro e w_1 ⟨rfl, hW_1, hk_1⟩
  have hK_1 := hK0.trans hk_1
  have hbx := box_keep hk_1 hbx hbX
  clear hI
  have hB_1 : Below w0.heap.size w0 w_1 := hBs.trans hK_1.b
  obtain ⟨c0, c1, c2, c3, c4, c5⟩ := (cells_box hbx).box
  have hlb := World.block_lt_of_cell? _ _ c0
  obtain ⟨n0_0, n0_1, n0_2, n0_3, n0_4, n0_5⟩ := hC0.later hB_1
  have hlk0 := World.block_lt_of_cell? _ _ n0_0
  have hlX := WrT.lt hW_1
  go_wp2_with fail
  have hWa := hW_1.alloc (.cells #[.string { data := #[46] }, .string (T.text)] 9)
  have hKa := hK_1.alloc (Nat.le_trans hB0 hK_1.b.size) (.cells #[.string { data := #[46] }, .string (T.text)] 9)
  have hbxa := (Lib.alloc_old _ (.cells #[.string { data := #[46] }, .string (T.text)] 9) _ hlb).trans hbx
  go_at_call 84
  refine (wSayT_ok w0.heap.size X dep _ ([46] ++ tx T) [⟨#[46]⟩, T.text] 2 _ _ hWa rfl (WrT.lt hW_1) (heap_alloc_new _ _) (by simp [tx]) (by decide) (by have h := HLN.out; (try simp only [List.length_append, List.length_cons, List.length_nil, List.length_singleton] at h); (try simp only [List.length_append, List.length_cons, List.length_nil, List.length_singleton]); omega) (Nat.le_trans hB0 hKa.b.size)).mono ?_
  rintro e w_2 ⟨rfl, hW_2, hk_2⟩
  have hK_2 := hKa.trans hk_2
  have hbx := box_keep hk_2 hbxa hbX
  have hB_2 : Below w0.heap.size w0 w_2 := hBs.trans hK_2.b
  obtain ⟨c0, c1, c2, c3, c4, c5⟩ := (cells_box hbx).box
  have hlb := World.block_lt_of_cell? _ _ c0
  obtain ⟨n0_0, n0_1, n0_2, n0_3, n0_4, n0_5⟩ := hC0.later hB_2
  have hlk0 := World.block_lt_of_cell? _ _ n0_0
  have hlX := WrT.lt hW_2
  go_wp2_with fail
  ((try simp only [Exit.inBlock, Exit.then]); first | refine bodyPost_end (results_none rfl _ _ _) rfl ?_ | refine bodyPost_ret (results_none rfl _ _ _) rfl ?_)
  exact ⟨rfl, hW_2.eq (by rw [HTX.out]; try simp only [List.append_assoc, List.append_nil, List.nil_append, List.cons_append, List.singleton_append]), hK_2⟩
end
section
set_option linter.unusedVariables false
set_option linter.unusedSimpArgs false
open Go.RowKit
set_option maxRecDepth 1000000
set_option maxHeartbeats 8000000 in
theorem wp54 (D : Nat) (w0 : World) (X dep : Nat) (hE : EOk D w0 X dep) (hTg : TOk D w0 X dep) (T : Nd) (hk : T.kind = 54) (hT : Ex T) (hD : T.depth ≤ D + 1) (hWt : T.weight ≤ 1000000) : FSays 146 w0 X dep Nd.txt T := by
  intro A c K d l0 w hN hBs hW hlen
  have hlen3 : 1 ≤ T.kids.length := by have := len_row hk hT.1 (tx := .non) (L := [.expr, .expr]) rfl (by decide); simp at this; omega
  obtain ⟨t0, hg0⟩ : ∃ t0, T.kids[0]? = some t0 := ⟨_, List.getElem?_eq_getElem (by omega)⟩
  have htk : T.kids = t0 :: T.kids.drop 1 := by
    match hks : T.kids, hg0 with
    | a :: r, h => simp at h; simp [h]
  obtain ⟨b, off, A0, c0', K0, d0, hKe0, hC0, hN0⟩ := hN.kid hg0
  rw [Nat.zero_mul, Nat.add_zero] at hC0
  subst hKe0
  have hd0 : t0.depth ≤ D ∧ t0.weight ≤ 1000000 := within_kidsM hD hWt t0 (List.mem_of_getElem? hg0)
  have hex0 := ex_kids hT (by omega) (by omega) (by omega)
  have HF0 := Lib.hid (hE t0 (hex0 t0 (List.mem_of_getElem? hg0)) hd0.1 hd0.2)
  have HN0 := Lib.hid hN0
  have HFT := Lib.hid (fun (t : Nd) (ht : t ∈ T.kids.drop 1) => hE t (hex0 t (List.mem_of_mem_drop ht)) (within_kidsM hD hWt t (List.mem_of_mem_drop ht)).1 (within_kidsM hD hWt t (List.mem_of_mem_drop ht)).2)
  have i0 : (0 : Int) < (T.kids.length : Int) := by omega
  have i0' : 0 < T.kids.length := by omega
  have i1 : (1 : Int) ≤ (T.kids.length : Int) := by omega
  have hkd := hN.parts.2.2.2.2.1
  have i2 : (1 : Int) ≤ (d : Int) := by omega
  have i3 : (T.kids.length : Int) ≤ (d : Int) := by omega
  have hts : T.txt = t0.txt ++ [91] ++ sepL com ((T.kids.drop 1).map Nd.txt) ++ [93] := by
    rw [txt_eq, show T.kids.map Nd.txt = t0.txt :: (T.kids.drop 1).map Nd.txt by rw [← List.map_cons, ← htk]]
    have hl2 : T.kids.length = 2 := len_row hk hT.1 (tx := .non) (L := [.expr, .expr]) rfl (by decide)
    obtain ⟨u0, u1, hu⟩ := kids_2 hl2
    simp [txtOf, hk, gl, hu, sepL]
  have HTX := Lib.hid hts
  have HLN := Lib.hid (show l0.length + (t0.txt ++ [91] ++ sepL com ((T.kids.drop 1).map Nd.txt) ++ [93]).length ≤ 1000000000000 by rw [← hts]; exact hlen)
  have z39 : (T.kind == 39) = false := by rw [hk]; rfl
  have z40 : (T.kind == 40) = false := by rw [hk]; rfl
  have z52 : (T.kind == 52) = false := by rw [hk]; rfl
  have z44 : (T.kind == 44) = false := by rw [hk]; rfl
  have z47 : (T.kind == 47) = false := by rw [hk]; rfl
  have z50 : (T.kind == 50) = false := by rw [hk]; rfl
  have z51 : (T.kind == 51) = false := by rw [hk]; rfl
  have z53 : (T.kind == 53) = false := by rw [hk]; rfl
  have z54 : (T.kind == 54) = true := by rw [hk]; rfl
  obtain ⟨hm1, hm2, hrm, hw32, hk1, hk2, hk64, ha64, hts', hKs⟩ := hN.parts
  have hk2' := hk2
  unfold maxLen at hm2 hk2 hts'
  obtain ⟨hk64a, hk64b⟩ := hk64
  obtain ⟨ha64a, ha64b⟩ := ha64
  have hB0 : w0.heap.size ≤ w.heap.size := hBs.size
  have hbX : X < w.heap.size := WrT.lt hW
  have hK0 : WK w0.heap.size X w (w.alloc (.cells #[.int .i64 T.kind, .int .i64 T.pos, .string T.text, .bool T.neg, .slice A T.mag.length c, .slice (some ⟨b, off, none⟩) T.kids.length d] 27)) := (WK.refl _ _ _).alloc hB0 _
  have hWb := hW.alloc (.cells #[.int .i64 T.kind, .int .i64 T.pos, .string T.text, .bool T.neg, .slice A T.mag.length c, .slice (some ⟨b, off, none⟩) T.kids.length d] 27)
  have hBb : Below w0.heap.size w0 (w.alloc (.cells #[.int .i64 T.kind, .int .i64 T.pos, .string T.text, .bool T.neg, .slice A T.mag.length c, .slice (some ⟨b, off, none⟩) T.kids.length d] 27)) := hBs.trans hK0.b
  have hbx := heap_alloc_new w (.cells #[.int .i64 T.kind, .int .i64 T.pos, .string T.text, .bool T.neg, .slice A T.mag.length c, .slice (some ⟨b, off, none⟩) T.kids.length d] 27)
  have hsg : (w.alloc (.cells #[.int .i64 T.kind, .int .i64 T.pos, .string T.text, .bool T.neg, .slice A T.mag.length c, .slice (some ⟨b, off, none⟩) T.kids.length d] 27)).heap.size = w.heap.size + 1 := by simp
  have HKT := Lib.hid (hKs.cut 1 d hkd)
  clear hKs hN hlen hE hTg hT hD hWt hrm hw32 hk hts hg0 hN0 hd0 hex0 htk hlen3
  by_cases hd1 : d = 1
  · subst hd1
    simp only [if_true] at HKT
    obtain ⟨c0, c1, c2, c3, c4, c5⟩ := (cells_box hbx).box
    have hlb := World.block_lt_of_cell? _ _ c0
    obtain ⟨n0_0, n0_1, n0_2, n0_3, n0_4, n0_5⟩ := hC0.later hBb
    have hlk0 := World.block_lt_of_cell? _ _ n0_0
    have hlX := WrT.lt hWb
    unfold ndV
    go_enter Tryz.func146, Tryz.ntmps146
    go_wp2_with fail
    have hI := HF0.out A0 c0' K0 d0 _ _ HN0.out hBb hWb (by have h := HLN.out; (try simp only [List.length_append, List.length_cons, List.length_nil, List.length_singleton] at h); (try simp only [List.length_append, List.length_cons, List.length_nil, List.length_singleton]); omega)
    unfold ndV at hI
    go_at_call 81
    refine hI.mono ?_
    rintro e w_1 ⟨rfl, hW_1, hk_1⟩
    have hK_1 := hK0.trans hk_1
    have hbx := box_keep hk_1 hbx hbX
    clear hI
    have hB_1 : Below w0.heap.size w0 w_1 := hBs.trans hK_1.b
    obtain ⟨c0, c1, c2, c3, c4, c5⟩ := (cells_box hbx).box
    have hlb := World.block_lt_of_cell? _ _ c0
    obtain ⟨n0_0, n0_1, n0_2, n0_3, n0_4, n0_5⟩ := hC0.later hB_1
    have hlk0 := World.block_lt_of_cell? _ _ n0_0
    have hlX := WrT.lt hW_1
    go_wp2_with fail
    have hI := wBetween_ok ⟨#[91]⟩ ⟨#[93]⟩ (T.kids.drop 1) 0 (some ⟨b, off, none⟩) 0 w0 X dep _ _ (by rw [List.length_drop]; omega) HKT.out HFT.out (by omega) (by omega) hB_1 hW_1 (by have h := HLN.out; (try simp only [List.length_append, List.length_cons, List.length_nil, List.length_singleton] at h); (try simp only [List.length_append, List.length_cons, List.length_nil, List.length_singleton]); omega)
    go_at_call 143
    refine hI.mono ?_
    rintro e w_2 ⟨rfl, hW_2, hk_2⟩
    have hK_2 := hK_1.trans hk_2
    have hbx := box_keep hk_2 hbx hbX
    clear hI
    have hB_2 : Below w0.heap.size w0 w_2 := hBs.trans hK_2.b
    obtain ⟨c0, c1, c2, c3, c4, c5⟩ := (cells_box hbx).box
    have hlb := World.block_lt_of_cell? _ _ c0
    obtain ⟨n0_0, n0_1, n0_2, n0_3, n0_4, n0_5⟩ := hC0.later hB_2
    have hlk0 := World.block_lt_of_cell? _ _ n0_0
    have hlX := WrT.lt hW_2
    go_wp2_with fail
    ((try simp only [Exit.inBlock, Exit.then]); first | refine bodyPost_end (results_none rfl _ _ _) rfl ?_ | refine bodyPost_ret (results_none rfl _ _ _) rfl ?_)
    exact ⟨rfl, hW_2.eq (by rw [HTX.out]; try simp only [List.append_assoc, List.append_nil, List.nil_append, List.cons_append, List.singleton_append]), hK_2⟩
  · simp only [if_neg hd1] at HKT
    obtain ⟨c0, c1, c2, c3, c4, c5⟩ := (cells_box hbx).box
    have hlb := World.block_lt_of_cell? _ _ c0
    obtain ⟨n0_0, n0_1, n0_2, n0_3, n0_4, n0_5⟩ := hC0.later hBb
    have hlk0 := World.block_lt_of_cell? _ _ n0_0
    have hlX := WrT.lt hWb
    unfold ndV
    go_enter Tryz.func146, Tryz.ntmps146
    go_wp2_with fail
    have hI := HF0.out A0 c0' K0 d0 _ _ HN0.out hBb hWb (by have h := HLN.out; (try simp only [List.length_append, List.length_cons, List.length_nil, List.length_singleton] at h); (try simp only [List.length_append, List.length_cons, List.length_nil, List.length_singleton]); omega)
    unfold ndV at hI
    go_at_call 81
    refine hI.mono ?_
    rintro e w_1 ⟨rfl, hW_1, hk_1⟩
    have hK_1 := hK0.trans hk_1
    have hbx := box_keep hk_1 hbx hbX
    clear hI
    have hB_1 : Below w0.heap.size w0 w_1 := hBs.trans hK_1.b
    obtain ⟨c0, c1, c2, c3, c4, c5⟩ := (cells_box hbx).box
    have hlb := World.block_lt_of_cell? _ _ c0
    obtain ⟨n0_0, n0_1, n0_2, n0_3, n0_4, n0_5⟩ := hC0.later hB_1
    have hlk0 := World.block_lt_of_cell? _ _ n0_0
    have hlX := WrT.lt hW_1
    go_wp2_with fail
    have hI := wBetween_ok ⟨#[91]⟩ ⟨#[93]⟩ (T.kids.drop 1) (T.kids.length - 1) (some ⟨b, off + 6, none⟩) (d - 1) w0 X dep _ _ (by rw [List.length_drop]) HKT.out HFT.out (by omega) (by omega) hB_1 hW_1 (by have h := HLN.out; (try simp only [List.length_append, List.length_cons, List.length_nil, List.length_singleton] at h); (try simp only [List.length_append, List.length_cons, List.length_nil, List.length_singleton]); omega)
    go_at_call 143
    refine hI.mono ?_
    rintro e w_2 ⟨rfl, hW_2, hk_2⟩
    have hK_2 := hK_1.trans hk_2
    have hbx := box_keep hk_2 hbx hbX
    clear hI
    have hB_2 : Below w0.heap.size w0 w_2 := hBs.trans hK_2.b
    obtain ⟨c0, c1, c2, c3, c4, c5⟩ := (cells_box hbx).box
    have hlb := World.block_lt_of_cell? _ _ c0
    obtain ⟨n0_0, n0_1, n0_2, n0_3, n0_4, n0_5⟩ := hC0.later hB_2
    have hlk0 := World.block_lt_of_cell? _ _ n0_0
    have hlX := WrT.lt hW_2
    go_wp2_with fail
    ((try simp only [Exit.inBlock, Exit.then]); first | refine bodyPost_end (results_none rfl _ _ _) rfl ?_ | refine bodyPost_ret (results_none rfl _ _ _) rfl ?_)
    exact ⟨rfl, hW_2.eq (by rw [HTX.out]; try simp only [List.append_assoc, List.append_nil, List.nil_append, List.cons_append, List.singleton_append]), hK_2⟩
end
section
set_option linter.unusedVariables false
set_option linter.unusedSimpArgs false
open Go.RowKit
set_option maxRecDepth 1000000
theorem wPart_ok (D : Nat) (w0 : World) (X dep : Nat) (hE : EOk D w0 X dep) (hTg : TOk D w0 X dep) (T : Nd) (hT : Ex T) (hD : T.depth ≤ D + 1) (hWt : T.weight ≤ 1000000) (hk : T.kind = 39 ∨ T.kind = 40 ∨ T.kind = 52 ∨ T.kind = 44 ∨ T.kind = 47 ∨ T.kind = 50 ∨ T.kind = 51 ∨ T.kind = 53 ∨ T.kind = 54) : FSays 146 w0 X dep Nd.txt T := by
  rcases hk with hk | hk | hk | hk | hk | hk | hk | hk | hk
  · exact wp39 D w0 X dep hE hTg T hk hT hD hWt
  · exact wp40 D w0 X dep hE hTg T hk hT hD hWt
  · exact wp52 D w0 X dep hE hTg T hk hT hD hWt
  · exact wp44 D w0 X dep hE hTg T hk hT hD hWt
  · exact wp47 D w0 X dep hE hTg T hk hT hD hWt
  · exact wp50 D w0 X dep hE hTg T hk hT hD hWt
  · exact wp51 D w0 X dep hE hTg T hk hT hD hWt
  · obtain ⟨t0, hks⟩ := kids_1 (len_row hk hT.1 (tx := .name) (L := [.expr]) rfl (by decide))
    by_cases hq : t0.kind = 32
    · exact wp53a D w0 X dep hE hTg T hk (fun t ht => by rw [hks] at ht; simp at ht; rw [← ht]; exact hq) hT hD hWt
    · exact wp53b D w0 X dep hE hTg T hk (fun t ht => by rw [hks] at ht; simp at ht; rw [← ht]; exact hq) hT hD hWt
  · exact wp54 D w0 X dep hE hTg T hk hT hD hWt
set_option maxHeartbeats 8000000 in
theorem we_part (D : Nat) (w0 : World) (X dep : Nat) (T : Nd) (hP : FSays 146 w0 X dep Nd.txt T) (z31 : (T.kind == 31) = false) (z34 : (T.kind == 34) = false) (z32 : (T.kind == 32) = false) (z33 : (T.kind == 33) = false) (z35 : (T.kind == 35) = false) (z36 : (T.kind == 36) = false) (z37 : (T.kind == 37) = false) (z38 : (T.kind == 38) = false) (z41 : (T.kind == 41) = false) (z42 : (T.kind == 42) = false) (z43 : (T.kind == 43) = false) (z45 : (T.kind == 45) = false) (z46 : (T.kind == 46) = false) (z48 : (T.kind == 48) = false) (z49 : (T.kind == 49) = false) : FSays 81 w0 X dep Nd.txt T := by
  intro A c K d l0 w hN hBs hW hlen
  obtain ⟨hm1, hm2, hrm, hw32, hk1, hk2, hk64, ha64, hts', hKs⟩ := hN.parts
  have hk2' := hk2
  unfold maxLen at hm2 hk2 hts'
  obtain ⟨hk64a, hk64b⟩ := hk64
  obtain ⟨ha64a, ha64b⟩ := ha64
  have hB0 : w0.heap.size ≤ w.heap.size := hBs.size
  have hbX : X < w.heap.size := WrT.lt hW
  have hK0 : WK w0.heap.size X w (w.alloc (.cells #[.int .i64 T.kind, .int .i64 T.pos, .string T.text, .bool T.neg, .slice A T.mag.length c, .slice K T.kids.length d] 27)) := (WK.refl _ _ _).alloc hB0 _
  have hWb := hW.alloc (.cells #[.int .i64 T.kind, .int .i64 T.pos, .string T.text, .bool T.neg, .slice A T.mag.length c, .slice K T.kids.length d] 27)
  have hBb : Below w0.heap.size w0 (w.alloc (.cells #[.int .i64 T.kind, .int .i64 T.pos, .string T.text, .bool T.neg, .slice A T.mag.length c, .slice K T.kids.length d] 27)) := hBs.trans hK0.b
  have hbx := heap_alloc_new w (.cells #[.int .i64 T.kind, .int .i64 T.pos, .string T.text, .bool T.neg, .slice A T.mag.length c, .slice K T.kids.length d] 27)
  have hsg : (w.alloc (.cells #[.int .i64 T.kind, .int .i64 T.pos, .string T.text, .bool T.neg, .slice A T.mag.length c, .slice K T.kids.length d] 27)).heap.size = w.heap.size + 1 := by simp
  have hI := hP A c K d l0 _ hN hBb hWb hlen
  unfold ndV at hI
  have HI := Lib.hid hI
  clear hKs hN hlen hP hrm hw32 hI
  obtain ⟨c0, c1, c2, c3, c4, c5⟩ := (cells_box hbx).box
  unfold ndV
  go_enter Tryz.func81, Tryz.ntmps81
  go_wp2_with (go_at_call 146; refine HI.out.mono ?_; rintro e w3 ⟨rfl, hw3, hk3⟩)
  ((try simp only [Exit.inBlock, Exit.then]); first | refine bodyPost_end (results_none rfl _ _ _) rfl ?_ | refine bodyPost_ret (results_none rfl _ _ _) rfl ?_)
  exact ⟨rfl, hw3, hK0.trans hk3⟩
theorem wExpr_step (D : Nat) (w0 : World) (X dep : Nat) (hE : EOk D w0 X dep) : EOk (D + 1) w0 X dep := by
  intro T hT hD hWt
  have hTg := wTargets_ok D w0 X dep hE
  by_cases h31 : T.kind = 31
  · exact we31 D w0 X dep hE hTg T h31 hT hD hWt
  by_cases h34 : T.kind = 34
  · exact we34 D w0 X dep hE hTg T h34 hT hD hWt
  by_cases h32 : T.kind = 32
  · exact we32 D w0 X dep hE hTg T h32 hT hD hWt
  by_cases h33 : T.kind = 33
  · exact we33 D w0 X dep hE hTg T h33 hT hD hWt
  by_cases h35 : T.kind = 35
  · by_cases ho : T.kids.length = 1
    · exact we35a D w0 X dep hE hTg T h35 ho hT hD hWt
    · exact we35b D w0 X dep hE hTg T h35 ho hT hD hWt
  by_cases h36 : T.kind = 36
  · exact we36 D w0 X dep hE hTg T h36 hT hD hWt
  by_cases h37 : T.kind = 37
  · exact we37 D w0 X dep hE hTg T h37 hT hD hWt
  by_cases h38 : T.kind = 38
  · exact we38 D w0 X dep hE hTg T h38 hT hD hWt
  by_cases h41 : T.kind = 41
  · exact we41 D w0 X dep hE hTg T h41 hT hD hWt
  by_cases h42 : T.kind = 42
  · exact we42 D w0 X dep hE hTg T h42 hT hD hWt
  by_cases h43 : T.kind = 43
  · exact we43 D w0 X dep hE hTg T h43 hT hD hWt
  by_cases h45 : T.kind = 45
  · exact we45 D w0 X dep hE hTg T h45 hT hD hWt
  by_cases h46 : T.kind = 46
  · exact we46 D w0 X dep hE hTg T h46 hT hD hWt
  by_cases h48 : T.kind = 48
  · exact we48 D w0 X dep hE hTg T h48 hT hD hWt
  by_cases h49 : T.kind = 49
  · exact we49 D w0 X dep hE hTg T h49 hT hD hWt
  refine we_part D w0 X dep T (wPart_ok D w0 X dep hE hTg T hT hD hWt ?_) (beq_eq_false_iff_ne.2 h31) (beq_eq_false_iff_ne.2 h34) (beq_eq_false_iff_ne.2 h32) (beq_eq_false_iff_ne.2 h33) (beq_eq_false_iff_ne.2 h35) (beq_eq_false_iff_ne.2 h36) (beq_eq_false_iff_ne.2 h37) (beq_eq_false_iff_ne.2 h38) (beq_eq_false_iff_ne.2 h41) (beq_eq_false_iff_ne.2 h42) (beq_eq_false_iff_ne.2 h43) (beq_eq_false_iff_ne.2 h45) (beq_eq_false_iff_ne.2 h46) (beq_eq_false_iff_ne.2 h48) (beq_eq_false_iff_ne.2 h49)
  obtain ⟨x, fm, hf, -, -⟩ := te_form hT.te
  have hm := form_at hf
  have hk := hT.2
  simp only [forms, List.mem_cons, List.not_mem_nil, or_false, Prod.mk.injEq] at hm
  omega
theorem wExpr_ok (w0 : World) (X dep : Nat) : ∀ D, EOk D w0 X dep := by
  intro D
  induction D with
  | zero => intro T _ hD; rw [T.depth_eq] at hD; omega
  | succ D ih => exact wExpr_step D w0 X dep ih
end
end Go.Proofs.YtjefhdlncikhmaaGreatDoor
