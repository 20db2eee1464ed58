/- Joined by a program: Wr4g, Wr4h, Wr4i, Wr4j, Wr4. -/
import Derived.Test.YtjefhdlncikhmaaGreatDoorPT21
import Derived.Test.YtjefhdlncikhmaaGreatDoorPT22
namespace Go.Proofs.YtjefhdlncikhmaaGreatDoor
set_option linter.unusedVariables false
set_option linter.unusedSimpArgs false
set_option maxRecDepth 1000000
set_option maxHeartbeats 16000000
section
open Go.RowKit
open List (length_append length_cons length_nil length_singleton)
section
variable (D : Nat) (w0 : World) (X dep : Nat) (hE : EOk D w0 X dep) (hTg : TOk D w0 X dep) (T : Nd) (hk : T.kind = 35)
include D w0 X dep hE hTg T hk
theorem we35a (hone : T.kids.length = 1) (hT : Ex T) (hD : T.depth ≤ D + 1) (hWt : T.weight ≤ 1000000) : FSays 81 w0 X dep Nd.txt T := by
 have _ := hTg
 intro A c K d l0 w hN hBs hW hlen
 have hts : T.txt = [40] ++ sepL com (T.kids.map Nd.txt) ++ [44, 41] := by
  obtain ⟨t0, hks⟩ := kids_1 hone; rw [txt_eq]; simp [txtOf, hk, hks, gl, sepL]
 have HTX := Lh hts
 have HLN := Lh (show l0.length + ([40] ++ sepL com (T.kids.map Nd.txt) ++ [44, 41]).length ≤ 1000000000000 by rw [← hts]; exact hlen)
 have el : ((T.kids.length : Int) == 1) = true := by rw [hone]; rfl
 obtain ⟨z31, z34, z32, z33⟩ := kz4 hk 31 34 32 33 rfl
 have z35 : (T.kind == 35) = true := by rw [hk]; rfl
 obtain ⟨z36, z37, z38, z41, z42, z43, z45, z46⟩ := kz8 hk 36 37 38 41 42 43 45 46 rfl
 obtain ⟨z48, z49⟩ := kz2 hk 48 49 rfl
 obtain ⟨hm1, hm2, hrm, hw32, hk1, hk2, hk64, ha64, hts', hKs⟩ := hN.parts
 have hk2' := hk2
 unfold maxLen at hm2 hk2 hts'
 obtain ⟨hk64a, hk64b⟩ := hk64
 obtain ⟨ha64a, ha64b⟩ := ha64
 have hB0 : w0.heap.size ≤ w.heap.size := hBs.size
 have hbX : X < w.heap.size := WrT.lt hW
 have hK0 : WK w0.heap.size X w (w.alloc (bx T.kind T A c K d)) := (WK.refl _ _ _).alloc hB0 _
 have hWb := hW.alloc (bx T.kind T A c K d)
 have hBb : Below w0.heap.size w0 (w.alloc (bx T.kind T A c K d)) := hBs.trans hK0.b
 have hbx := heap_alloc_new w (bx T.kind T A c K d)
 have hsg : (w.alloc (bx T.kind T A c K d)).heap.size = w.heap.size + 1 := by simp
 have HFA := Lh (fun (t : Nd) (ht : t ∈ T.kids) => hE t (ex_kids hT lq29 lq29 lq29 t ht) (wKM hD hWt t ht).1 (wKM hD hWt t ht).2)
 have HKA := Lh hKs
 clear hone
 clear hKs hN hlen hE hTg hT hD hWt hrm hw32 hk hts 
 obtain ⟨c0, c1, c2, c3, c4, c5⟩ := (cells_box hbx).box
 have hlb := blt c0
 have hlX := WrT.lt hWb
 unfold ndV
 go_enter Tryz.func81, Tryz.ntmps81
 go_wp2_with fail
 have hI := wBetween_ok ⟨#[40]⟩ ⟨#[44, 41]⟩ T.kids T.kids.length K d w0 X dep _ _ rfl HKA.out HFA.out hk1 hk2' hBb hWb lq8
 exact lv115
theorem we35b (hone : ¬ T.kids.length = 1) (hT : Ex T) (hD : T.depth ≤ D + 1) (hWt : T.weight ≤ 1000000) : FSays 81 w0 X dep Nd.txt T := by
 have _ := hTg
 intro A c K d l0 w hN hBs hW hlen
 have hts : T.txt = [40] ++ sepL com (T.kids.map Nd.txt) ++ [41] := by rw [txt_eq]; simp [txtOf, hk, hone]
 have HTX := Lh hts
 have HLN := Lh (show l0.length + ([40] ++ sepL com (T.kids.map Nd.txt) ++ [41]).length ≤ 1000000000000 by rw [← hts]; exact hlen)
 have el : ((T.kids.length : Int) == 1) = false := bFo
 obtain ⟨z31, z34, z32, z33⟩ := kz4 hk 31 34 32 33 rfl
 have z35 : (T.kind == 35) = true := by rw [hk]; rfl
 obtain ⟨z36, z37, z38, z41, z42, z43, z45, z46⟩ := kz8 hk 36 37 38 41 42 43 45 46 rfl
 obtain ⟨z48, z49⟩ := kz2 hk 48 49 rfl
 obtain ⟨hm1, hm2, hrm, hw32, hk1, hk2, hk64, ha64, hts', hKs⟩ := hN.parts
 have hk2' := hk2
 unfold maxLen at hm2 hk2 hts'
 obtain ⟨hk64a, hk64b⟩ := hk64
 obtain ⟨ha64a, ha64b⟩ := ha64
 have hB0 : w0.heap.size ≤ w.heap.size := hBs.size
 have hbX : X < w.heap.size := WrT.lt hW
 have hK0 : WK w0.heap.size X w (w.alloc (bx T.kind T A c K d)) := (WK.refl _ _ _).alloc hB0 _
 have hWb := hW.alloc (bx T.kind T A c K d)
 have hBb : Below w0.heap.size w0 (w.alloc (bx T.kind T A c K d)) := hBs.trans hK0.b
 have hbx := heap_alloc_new w (bx T.kind T A c K d)
 have hsg : (w.alloc (bx T.kind T A c K d)).heap.size = w.heap.size + 1 := by simp
 have HFA := Lh (fun (t : Nd) (ht : t ∈ T.kids) => hE t (ex_kids hT lq29 lq29 lq29 t ht) (wKM hD hWt t ht).1 (wKM hD hWt t ht).2)
 have HKA := Lh hKs
 clear hone
 clear hKs hN hlen hE hTg hT hD hWt hrm hw32 hk hts 
 obtain ⟨c0, c1, c2, c3, c4, c5⟩ := (cells_box hbx).box
 have hlb := blt c0
 have hlX := WrT.lt hWb
 unfold ndV
 go_enter Tryz.func81, Tryz.ntmps81
 go_wp2_with fail
 have hI := wBetween_ok ⟨#[40]⟩ ⟨#[41]⟩ T.kids T.kids.length K d w0 X dep _ _ rfl HKA.out HFA.out hk1 hk2' hBb hWb lq8
 exact lv115
end

section
variable (D : Nat) (w0 : World) (X dep : Nat) (hE : EOk D w0 X dep) (hTg : TOk D w0 X dep) (T : Nd)
include D w0 X dep hE hTg T
theorem we41 (hk : T.kind = 41) (hT : Ex T) (hD : T.depth ≤ D + 1) (hWt : T.weight ≤ 1000000) : FSays 81 w0 X dep Nd.txt T := by
 intro A c K d l0 w hN hBs hW hlen
 have hts : T.txt = [91] ++ gl (T.kids.map Nd.txt) 0 ++ behindL (T.kids.map Nd.txt) ++ [93] := by rw [txt_eq]; simp [txtOf, hk]
 have HTX := Lh hts
 have HLN := Lh (show l0.length + ([91] ++ gl (T.kids.map Nd.txt) 0 ++ behindL (T.kids.map Nd.txt) ++ [93]).length ≤ 1000000000000 by rw [← hts]; exact hlen)
 obtain ⟨z31, z34, z32, z33, z35, z36, z37, z38⟩ := kz8 hk 31 34 32 33 35 36 37 38 rfl
 have z41 : (T.kind == 41) = true := by rw [hk]; rfl
 obtain ⟨z42, z43, z45, z46, z48, z49⟩ := kz6 hk 42 43 45 46 48 49 rfl
 obtain ⟨hm1, hm2, hrm, hw32, hk1, hk2, hk64, ha64, hts', hKs⟩ := hN.parts
 have hk2' := hk2
 unfold maxLen at hm2 hk2 hts'
 obtain ⟨hk64a, hk64b⟩ := hk64
 obtain ⟨ha64a, ha64b⟩ := ha64
 have hB0 : w0.heap.size ≤ w.heap.size := hBs.size
 have hbX : X < w.heap.size := WrT.lt hW
 have hK0 : WK w0.heap.size X w (w.alloc (bx T.kind T A c K d)) := (WK.refl _ _ _).alloc hB0 _
 have hWb := hW.alloc (bx T.kind T A c K d)
 have hBb : Below w0.heap.size w0 (w.alloc (bx T.kind T A c K d)) := hBs.trans hK0.b
 have hbx := heap_alloc_new w (bx T.kind T A c K d)
 have hsg : (w.alloc (bx T.kind T A c K d)).heap.size = w.heap.size + 1 := by simp
 have HKA := Lh hKs
 have hcx := cmp_ex hT lq29
 have HC3 := Lh hcx.1
 have HEX := Lh hcx.2
 have HTE := Lh (te_kids hT.te)
 have HWI := Lh (wKM hD hWt)
 have HE := Lh hE
 have HTg := Lh hTg
 clear hcx
 clear hKs hN hlen hE hTg hT hD hWt hrm hw32 hk hts 
 obtain ⟨c0, c1, c2, c3, c4, c5⟩ := (cells_box hbx).box
 have hlb := blt c0
 have hlX := WrT.lt hWb
 unfold ndV
 go_enter Tryz.func81, Tryz.ntmps81
 go_wp2_with fail
 have hI := wComp_ok D ⟨#[91]⟩ ⟨#[93]⟩ T.kids T.kids.length K d w0 X dep _ _ rfl HC3.out HKA.out HTg.out HE.out HTE.out HEX.out HWI.out hk1 hk2' hBb hWb _ rfl lq8
 go_at_call 144
 refine hI.mono ?_
 rintro e w_1 ⟨rfl, hW_1, hk_1⟩
 have hK_1 := hK0.trans hk_1
 have hbx := box_keep hk_1 hbx hbX
 clear hI
 have hB_1 : Below w0.heap.size w0 w_1 := hBs.trans hK_1.b
 obtain ⟨c0, c1, c2, c3, c4, c5⟩ := (cells_box hbx).box
 have hlb := blt c0
 exact lv158
theorem we42 (hk : T.kind = 42) (hT : Ex T) (hD : T.depth ≤ D + 1) (hWt : T.weight ≤ 1000000) : FSays 81 w0 X dep Nd.txt T := by
 have _ := hE
 have _ := hTg
 intro A c K d l0 w hN hBs hW hlen
 have hts : T.txt = [123] ++ gl (T.kids.map Nd.txt) 0 ++ behindL (T.kids.map Nd.txt) ++ [125] := by rw [txt_eq]; simp [txtOf, hk]
 have HTX := Lh hts
 have HLN := Lh (show l0.length + ([123] ++ gl (T.kids.map Nd.txt) 0 ++ behindL (T.kids.map Nd.txt) ++ [125]).length ≤ 1000000000000 by rw [← hts]; exact hlen)
 obtain ⟨z31, z34, z32, z33, z35, z36, z37, z38⟩ := kz8 hk 31 34 32 33 35 36 37 38 rfl
 have z41 : (T.kind == 41) = false := by rw [hk]; rfl
 have z42 : (T.kind == 42) = true := by rw [hk]; rfl
 obtain ⟨z43, z45, z46, z48, z49⟩ := kz5 hk 43 45 46 48 49 rfl
 exact lv30
theorem we43 (hk : T.kind = 43) (hT : Ex T) (hD : T.depth ≤ D + 1) (hWt : T.weight ≤ 1000000) : FSays 81 w0 X dep Nd.txt T := by
 have _ := hE
 have _ := hTg
 intro A c K d l0 w hN hBs hW hlen
 have hts : T.txt = [123] ++ gl (T.kids.map Nd.txt) 0 ++ behindL (T.kids.map Nd.txt) ++ [125] := by rw [txt_eq]; simp [txtOf, hk]
 have HTX := Lh hts
 have HLN := Lh (show l0.length + ([123] ++ gl (T.kids.map Nd.txt) 0 ++ behindL (T.kids.map Nd.txt) ++ [125]).length ≤ 1000000000000 by rw [← hts]; exact hlen)
 obtain ⟨z31, z34, z32, z33, z35, z36, z37, z38⟩ := kz8 hk 31 34 32 33 35 36 37 38 rfl
 obtain ⟨z41, z42⟩ := kz2 hk 41 42 rfl
 have z43 : (T.kind == 43) = true := by rw [hk]; rfl
 obtain ⟨z45, z46, z48, z49⟩ := kz4 hk 45 46 48 49 rfl
 exact lv30
end

section
variable (D : Nat) (w0 : World) (X dep : Nat) (hE : EOk D w0 X dep) (hTg : TOk D w0 X dep) (T : Nd) (hk : T.kind = 53)
include D w0 X dep hE hTg T hk
theorem wp53a (hq0 : ∀ t, T.kids[0]? = some t → t.kind = 32) (hT : Ex T) (hD : T.depth ≤ D + 1) (hWt : T.weight ≤ 1000000) : FSays 146 w0 X dep Nd.txt T := by
 have _ := hTg
 intro A c K d l0 w hN hBs hW hlen
 have hlen3 : T.kids.length = 1 := len_row hk hT.1 (tx := .name) (L := [.expr]) rfl lq28
 obtain ⟨t0, hks⟩ := kids_1 (l := T.kids) hlen3
 have hg0 : T.kids[0]? = some t0 := by rw [hks]; rfl
 obtain ⟨b, off, A0, c0', K0, d0, hKe0, hC0, hN0⟩ := hN.kid hg0
 rw [Nat.zero_mul, Nat.add_zero] at hC0
 subst hKe0
 have hd0 : t0.depth ≤ D ∧ t0.weight ≤ 1000000 := wKM hD hWt t0 (mog hg0)
 have HF0 := Lh (hE t0 (ex_kids hT lq29 lq29 lq29 t0 (mog hg0)) hd0.1 hd0.2)
 have HN0 := Lh hN0
 have i0 : (0 : Int) < (T.kids.length : Int) := by omega
 have i0' : 0 < T.kids.length := by omega
 have hts : T.txt = [40] ++ t0.txt ++ [41] ++ [46] ++ tx T := by
  have hq := hq0 t0 hg0; rw [txt_eq, txtOf, hks]; simp [hk, gl, hq]
 have HTX := Lh hts
 have HLN := Lh (show l0.length + ([40] ++ t0.txt ++ [41] ++ [46] ++ tx T).length ≤ 1000000000000 by rw [← hts]; exact hlen)
 obtain ⟨z39, z40, z52, z44, z47, z50, z51⟩ := kz7 hk 39 40 52 44 47 50 51 rfl
 have z53 : (T.kind == 53) = true := by rw [hk]; rfl
 have z54 : (T.kind == 54) = false := by rw [hk]; rfl
 obtain ⟨hm1, hm2, hrm, hw32, hk1, hk2, hk64, ha64, hts', hKs⟩ := hN.parts
 have hk2' := hk2
 unfold maxLen at hm2 hk2 hts'
 obtain ⟨hk64a, hk64b⟩ := hk64
 obtain ⟨ha64a, ha64b⟩ := ha64
 have hB0 : w0.heap.size ≤ w.heap.size := hBs.size
 have hbX : X < w.heap.size := WrT.lt hW
 have hK0 : WK w0.heap.size X w (w.alloc (bx T.kind T A c (some ⟨b, off, none⟩) d)) := (WK.refl _ _ _).alloc hB0 _
 have hWb := hW.alloc (bx T.kind T A c (some ⟨b, off, none⟩) d)
 have hBb : Below w0.heap.size w0 (w.alloc (bx T.kind T A c (some ⟨b, off, none⟩) d)) := hBs.trans hK0.b
 have hbx := heap_alloc_new w (bx T.kind T A c (some ⟨b, off, none⟩) d)
 have hsg : (w.alloc (bx T.kind T A c (some ⟨b, off, none⟩) d)).heap.size = w.heap.size + 1 := by simp
 have hq : t0.kind = 32 := hq0 t0 hg0
 have eq : (t0.kind == 32) = true := by simpa using hq
 have HSP := Lh (show sepL com (T.kids.map Nd.txt) = t0.txt by rw [hks]; simp [sepL])
 have HFA := Lh (fun (t : Nd) (ht : t ∈ T.kids) => hE t (ex_kids hT lq29 lq29 lq29 t ht) (wKM hD hWt t ht).1 (wKM hD hWt t ht).2)
 have HKA := Lh hKs
 clear hq hq0
 clear hKs hN hlen hE hTg hT hD hWt hrm hw32 hk hts hks hlen3 hg0 hN0 hd0
 obtain ⟨c0, c1, c2, c3, c4, c5⟩ := (cells_box hbx).box
 have hlb := blt c0
 obtain ⟨n00, n01, n02, n03, n04, n05⟩ := hC0.later hBb
 have hlk0 := blt n00
 have hlX := WrT.lt hWb
 unfold ndV
 go_enter Tryz.func146, Tryz.ntmps146
 go_wp2_with fail
 have hI := wBetween_ok ⟨#[40]⟩ ⟨#[41]⟩ T.kids T.kids.length (some ⟨b, off, none⟩) d w0 X dep _ _ rfl HKA.out HFA.out hk1 hk2' hBb hWb (by have h := HLN.out; rw [HSP.out]; (try simp only [length_append, length_cons, length_nil] at h); (try simp only [length_append, length_cons, length_nil]); omega)
 go_at_call 143
 refine hI.mono ?_
 rintro e w_1 ⟨rfl, hW_1, hk_1⟩
 have hK_1 := hK0.trans hk_1
 have hbx := box_keep hk_1 hbx hbX
 clear hI
 have hB_1 : Below w0.heap.size w0 w_1 := hBs.trans hK_1.b
 obtain ⟨c0, c1, c2, c3, c4, c5⟩ := (cells_box hbx).box
 have hlb := blt c0
 obtain ⟨n00, n01, n02, n03, n04, n05⟩ := hC0.later hB_1
 have hlk0 := blt n00
 have hlX := WrT.lt hW_1
 have hW_1 := hW_1.eq (show _ = l0 ++ ([40] ++ t0.txt ++ [41]) by rw [HSP.out])
 exact lv65
theorem wp53b (hq0 : ∀ t, T.kids[0]? = some t → ¬ t.kind = 32) (hT : Ex T) (hD : T.depth ≤ D + 1) (hWt : T.weight ≤ 1000000) : FSays 146 w0 X dep Nd.txt T := by
 have _ := hTg
 intro A c K d l0 w hN hBs hW hlen
 have hlen3 : T.kids.length = 1 := len_row hk hT.1 (tx := .name) (L := [.expr]) rfl lq28
 obtain ⟨t0, hks⟩ := kids_1 (l := T.kids) hlen3
 have hg0 : T.kids[0]? = some t0 := by rw [hks]; rfl
 obtain ⟨b, off, A0, c0', K0, d0, hKe0, hC0, hN0⟩ := hN.kid hg0
 rw [Nat.zero_mul, Nat.add_zero] at hC0
 subst hKe0
 have hd0 : t0.depth ≤ D ∧ t0.weight ≤ 1000000 := wKM hD hWt t0 (mog hg0)
 have HF0 := Lh (hE t0 (ex_kids hT lq29 lq29 lq29 t0 (mog hg0)) hd0.1 hd0.2)
 have HN0 := Lh hN0
 have i0 : (0 : Int) < (T.kids.length : Int) := by omega
 have i0' : 0 < T.kids.length := by omega
 have hts : T.txt = t0.txt ++ [46] ++ tx T := by
  have hq := hq0 t0 hg0; rw [txt_eq, txtOf, hks]; simp [hk, gl, hq]
 have HTX := Lh hts
 have HLN := Lh (show l0.length + (t0.txt ++ [46] ++ tx T).length ≤ 1000000000000 by rw [← hts]; exact hlen)
 obtain ⟨z39, z40, z52, z44, z47, z50, z51⟩ := kz7 hk 39 40 52 44 47 50 51 rfl
 have z53 : (T.kind == 53) = true := by rw [hk]; rfl
 have z54 : (T.kind == 54) = false := by rw [hk]; rfl
 obtain ⟨hm1, hm2, hrm, hw32, hk1, hk2, hk64, ha64, hts', hKs⟩ := hN.parts
 have hk2' := hk2
 unfold maxLen at hm2 hk2 hts'
 obtain ⟨hk64a, hk64b⟩ := hk64
 obtain ⟨ha64a, ha64b⟩ := ha64
 have hB0 : w0.heap.size ≤ w.heap.size := hBs.size
 have hbX : X < w.heap.size := WrT.lt hW
 have hK0 : WK w0.heap.size X w (w.alloc (bx T.kind T A c (some ⟨b, off, none⟩) d)) := (WK.refl _ _ _).alloc hB0 _
 have hWb := hW.alloc (bx T.kind T A c (some ⟨b, off, none⟩) d)
 have hBb : Below w0.heap.size w0 (w.alloc (bx T.kind T A c (some ⟨b, off, none⟩) d)) := hBs.trans hK0.b
 have hbx := heap_alloc_new w (bx T.kind T A c (some ⟨b, off, none⟩) d)
 have hsg : (w.alloc (bx T.kind T A c (some ⟨b, off, none⟩) d)).heap.size = w.heap.size + 1 := by simp
 have hq : ¬ t0.kind = 32 := hq0 t0 hg0
 have eq : (t0.kind == 32) = false := by simpa using hq
 clear hq hq0
 clear hKs hN hlen hE hTg hT hD hWt hrm hw32 hk hts hks hlen3 hg0 hN0 hd0
 obtain ⟨c0, c1, c2, c3, c4, c5⟩ := (cells_box hbx).box
 have hlb := blt c0
 obtain ⟨n00, n01, n02, n03, n04, n05⟩ := hC0.later hBb
 have hlk0 := blt n00
 have hlX := WrT.lt hWb
 unfold ndV
 go_enter Tryz.func146, Tryz.ntmps146
 go_wp2_with fail
 have hI := HF0.out A0 c0' K0 d0 _ _ HN0.out hBb hWb lq8
 unfold ndV at hI
 go_at_call 81
 refine hI.mono ?_
 rintro e w_1 ⟨rfl, hW_1, hk_1⟩
 have hK_1 := hK0.trans hk_1
 have hbx := box_keep hk_1 hbx hbX
 clear hI
 have hB_1 : Below w0.heap.size w0 w_1 := hBs.trans hK_1.b
 obtain ⟨c0, c1, c2, c3, c4, c5⟩ := (cells_box hbx).box
 have hlb := blt c0
 obtain ⟨n00, n01, n02, n03, n04, n05⟩ := hC0.later hB_1
 have hlk0 := blt n00
 have hlX := WrT.lt hW_1
 exact lv65
end

theorem wp54 (D : Nat) (w0 : World) (X dep : Nat) (hE : EOk D w0 X dep) (hTg : TOk D w0 X dep) (T : Nd) (hk : T.kind = 54) (hT : Ex T) (hD : T.depth ≤ D + 1) (hWt : T.weight ≤ 1000000) : FSays 146 w0 X dep Nd.txt T := by
 intro A c K d l0 w hN hBs hW hlen
 have hlen3 : 1 ≤ T.kids.length := by have := len_row hk hT.1 (tx := .non) (L := [.expr, .expr]) rfl lq28; simp at this; omega
 obtain ⟨t0, hg0⟩ : ∃ t0, T.kids[0]? = some t0 := ⟨_, gEo⟩
 have htk : T.kids = t0 :: T.kids.drop 1 := by
  match hks : T.kids, hg0 with
  | a :: r, h => simp at h; simp [h]
 obtain ⟨b, off, A0, c0', K0, d0, hKe0, hC0, hN0⟩ := hN.kid hg0
 rw [Nat.zero_mul, Nat.add_zero] at hC0
 subst hKe0
 have hd0 : t0.depth ≤ D ∧ t0.weight ≤ 1000000 := wKM hD hWt t0 (mog hg0)
 have hex0 := ex_kids hT lq29 lq29 lq29
 have HF0 := Lh (hE t0 (hex0 t0 (mog hg0)) hd0.1 hd0.2)
 have HN0 := Lh hN0
 have HFT := Lh (fun (t : Nd) (ht : t ∈ T.kids.drop 1) => hE t (hex0 t (List.mem_of_mem_drop ht)) (wKM hD hWt t (List.mem_of_mem_drop ht)).1 (wKM hD hWt t (List.mem_of_mem_drop ht)).2)
 have i0 : (0 : Int) < (T.kids.length : Int) := by omega
 have i0' : 0 < T.kids.length := by omega
 have i1 : (1 : Int) ≤ (T.kids.length : Int) := by omega
 have hkd := hN.parts.2.2.2.2.1
 have i2 : (1 : Int) ≤ (d : Int) := by omega
 have i3 : (T.kids.length : Int) ≤ (d : Int) := by omega
 have hts : T.txt = t0.txt ++ [91] ++ sepL com ((T.kids.drop 1).map Nd.txt) ++ [93] := by
  rw [txt_eq, show T.kids.map Nd.txt = t0.txt :: (T.kids.drop 1).map Nd.txt by rw [← List.map_cons, ← htk]]; have hl2 : T.kids.length = 2 := len_row hk hT.1 (tx := .non) (L := [.expr, .expr]) rfl lq28; obtain ⟨u0, u1, hu⟩ := kids_2 hl2
  simp [txtOf, hk, gl, hu, sepL]
 have HTX := Lh hts
 have HLN := Lh (show l0.length + (t0.txt ++ [91] ++ sepL com ((T.kids.drop 1).map Nd.txt) ++ [93]).length ≤ 1000000000000 by rw [← hts]; exact hlen)
 obtain ⟨z39, z40, z52, z44, z47, z50, z51, z53⟩ := kz8 hk 39 40 52 44 47 50 51 53 rfl
 have z54 : (T.kind == 54) = true := by rw [hk]; rfl
 obtain ⟨hm1, hm2, hrm, hw32, hk1, hk2, hk64, ha64, hts', hKs⟩ := hN.parts
 have hk2' := hk2
 unfold maxLen at hm2 hk2 hts'
 obtain ⟨hk64a, hk64b⟩ := hk64
 obtain ⟨ha64a, ha64b⟩ := ha64
 have hB0 : w0.heap.size ≤ w.heap.size := hBs.size
 have hbX : X < w.heap.size := WrT.lt hW
 have hK0 : WK w0.heap.size X w (w.alloc (bx T.kind T A c (some ⟨b, off, none⟩) d)) := (WK.refl _ _ _).alloc hB0 _
 have hWb := hW.alloc (bx T.kind T A c (some ⟨b, off, none⟩) d)
 have hBb : Below w0.heap.size w0 (w.alloc (bx T.kind T A c (some ⟨b, off, none⟩) d)) := hBs.trans hK0.b
 have hbx := heap_alloc_new w (bx T.kind T A c (some ⟨b, off, none⟩) d)
 have hsg : (w.alloc (bx T.kind T A c (some ⟨b, off, none⟩) d)).heap.size = w.heap.size + 1 := by simp
 have HKT := Lh (hKs.cut 1 d hkd)
 clear hKs hN hlen hE hTg hT hD hWt hrm hw32 hk hts hg0 hN0 hd0 hex0 htk hlen3
 by_cases hd1 : d = 1
 ·subst hd1; simp only [if_true] at HKT; obtain ⟨c0, c1, c2, c3, c4, c5⟩ := (cells_box hbx).box; have hlb := blt c0; obtain ⟨n00, n01, n02, n03, n04, n05⟩ := hC0.later hBb; have hlk0 := blt n00; have hlX := WrT.lt hWb; unfold ndV; go_enter Tryz.func146, Tryz.ntmps146; go_wp2_with fail; have hI := HF0.out A0 c0' K0 d0 _ _ HN0.out hBb hWb lq8; unfold ndV at hI
  go_at_call 81
  refine hI.mono ?_
  rintro e w_1 ⟨rfl, hW_1, hk_1⟩; have hK_1 := hK0.trans hk_1; have hbx := box_keep hk_1 hbx hbX; clear hI; have hB_1 : Below w0.heap.size w0 w_1 := hBs.trans hK_1.b; obtain ⟨c0, c1, c2, c3, c4, c5⟩ := (cells_box hbx).box; have hlb := blt c0; obtain ⟨n00, n01, n02, n03, n04, n05⟩ := hC0.later hB_1; have hlk0 := blt n00; have hlX := WrT.lt hW_1; go_wp2_with fail; have hI := wBetween_ok ⟨#[91]⟩ ⟨#[93]⟩ (T.kids.drop 1) 0 (some ⟨b, off, none⟩) 0 w0 X dep _ _ lq20 HKT.out HFT.out lq29 lq29 hB_1 hW_1 lq8; exact lv107
 ·simp only [if_neg hd1] at HKT; obtain ⟨c0, c1, c2, c3, c4, c5⟩ := (cells_box hbx).box; have hlb := blt c0; obtain ⟨n00, n01, n02, n03, n04, n05⟩ := hC0.later hBb; have hlk0 := blt n00; have hlX := WrT.lt hWb; unfold ndV; go_enter Tryz.func146, Tryz.ntmps146; go_wp2_with fail; have hI := HF0.out A0 c0' K0 d0 _ _ HN0.out hBb hWb lq8; unfold ndV at hI
  go_at_call 81
  refine hI.mono ?_
  rintro e w_1 ⟨rfl, hW_1, hk_1⟩; have hK_1 := hK0.trans hk_1; have hbx := box_keep hk_1 hbx hbX; clear hI; have hB_1 : Below w0.heap.size w0 w_1 := hBs.trans hK_1.b; obtain ⟨c0, c1, c2, c3, c4, c5⟩ := (cells_box hbx).box; have hlb := blt c0; obtain ⟨n00, n01, n02, n03, n04, n05⟩ := hC0.later hB_1; have hlk0 := blt n00; have hlX := WrT.lt hW_1; go_wp2_with fail; have hI := wBetween_ok ⟨#[91]⟩ ⟨#[93]⟩ (T.kids.drop 1) (T.kids.length - 1) (some ⟨b, off + 6, none⟩) (d - 1) w0 X dep _ _ (by rw [List.length_drop]) HKT.out HFT.out lq29 lq29 hB_1 hW_1 lq8; exact lv107
theorem wPart_ok (D : Nat) (w0 : World) (X dep : Nat) (hE : EOk D w0 X dep) (hTg : TOk D w0 X dep) (T : Nd) (hT : Ex T) (hD : T.depth ≤ D + 1) (hWt : T.weight ≤ 1000000) (hk : T.kind = 39 ∨ T.kind = 40 ∨ T.kind = 52 ∨ T.kind = 44 ∨ T.kind = 47 ∨ T.kind = 50 ∨ T.kind = 51 ∨ T.kind = 53 ∨ T.kind = 54) : FSays 146 w0 X dep Nd.txt T := by
 rcases hk with hk | hk | hk | hk | hk | hk | hk | hk | hk
 ·exact wp39 D w0 X dep hE hTg T hk hT hD hWt
 ·exact wp40 D w0 X dep hE hTg T hk hT hD hWt
 ·exact wp52 D w0 X dep hE hTg T hk hT hD hWt
 ·exact wp44 D w0 X dep hE hTg T hk hT hD hWt
 ·exact wp47 D w0 X dep hE hTg T hk hT hD hWt
 ·exact wp50 D w0 X dep hE hTg T hk hT hD hWt
 ·exact wp51 D w0 X dep hE hTg T hk hT hD hWt
 ·obtain ⟨t0, hks⟩ := kids_1 (len_row hk hT.1 (tx := .name) (L := [.expr]) rfl lq28)
  by_cases hq : t0.kind = 32
  ·exact wp53a D w0 X dep hE hTg T hk (fun t ht => by rw [hks] at ht; simp at ht; rw [← ht]; exact hq) hT hD hWt
  ·exact wp53b D w0 X dep hE hTg T hk (fun t ht => by rw [hks] at ht; simp at ht; rw [← ht]; exact hq) hT hD hWt
 ·exact wp54 D w0 X dep hE hTg T hk hT hD hWt
theorem we_part (D : Nat) (w0 : World) (X dep : Nat) (T : Nd) (hP : FSays 146 w0 X dep Nd.txt T) (z31 : (T.kind == 31) = false) (z34 : (T.kind == 34) = false) (z32 : (T.kind == 32) = false) (z33 : (T.kind == 33) = false) (z35 : (T.kind == 35) = false) (z36 : (T.kind == 36) = false) (z37 : (T.kind == 37) = false) (z38 : (T.kind == 38) = false) (z41 : (T.kind == 41) = false) (z42 : (T.kind == 42) = false) (z43 : (T.kind == 43) = false) (z45 : (T.kind == 45) = false) (z46 : (T.kind == 46) = false) (z48 : (T.kind == 48) = false) (z49 : (T.kind == 49) = false) : FSays 81 w0 X dep Nd.txt T := by
 intro A c K d l0 w hN hBs hW hlen
 obtain ⟨hm1, hm2, hrm, hw32, hk1, hk2, hk64, ha64, hts', hKs⟩ := hN.parts
 have hk2' := hk2
 unfold maxLen at hm2 hk2 hts'
 obtain ⟨hk64a, hk64b⟩ := hk64
 obtain ⟨ha64a, ha64b⟩ := ha64
 have hB0 : w0.heap.size ≤ w.heap.size := hBs.size
 have hbX : X < w.heap.size := WrT.lt hW
 have hK0 : WK w0.heap.size X w (w.alloc (bx T.kind T A c K d)) := (WK.refl _ _ _).alloc hB0 _
 have hWb := hW.alloc (bx T.kind T A c K d)
 have hBb : Below w0.heap.size w0 (w.alloc (bx T.kind T A c K d)) := hBs.trans hK0.b
 have hbx := heap_alloc_new w (bx T.kind T A c K d)
 have hsg : (w.alloc (bx T.kind T A c K d)).heap.size = w.heap.size + 1 := by simp
 have hI := hP A c K d l0 _ hN hBb hWb hlen
 unfold ndV at hI
 have HI := Lh hI
 clear hKs hN hlen hP hrm hw32 hI
 obtain ⟨c0, c1, c2, c3, c4, c5⟩ := (cells_box hbx).box
 unfold ndV
 go_enter Tryz.func81, Tryz.ntmps81
 go_wp2_with (go_at_call 146; refine HI.out.mono ?_; rintro e w3 ⟨rfl, hw3, hk3⟩)
 ((try simp only [Exit.inBlock, Exit.then]); first | refine bodyPost_end (results_none rfl _ _ _) rfl ?_ | refine bodyPost_ret (results_none rfl _ _ _) rfl ?_)
 exact ⟨rfl, hw3, hK0.trans hk3⟩
theorem wExpr_step (D : Nat) (w0 : World) (X dep : Nat) (hE : EOk D w0 X dep) : EOk (D + 1) w0 X dep := by
 intro T hT hD hWt
 have hTg := wTargets_ok D w0 X dep hE
 by_cases h31 : T.kind = 31
 ·exact we31 D w0 X dep hE hTg T h31 hT hD hWt
 by_cases h34 : T.kind = 34
 ·exact we34 D w0 X dep hE hTg T h34 hT hD hWt
 by_cases h32 : T.kind = 32
 ·exact we32 D w0 X dep hE hTg T h32 hT hD hWt
 by_cases h33 : T.kind = 33
 ·exact we33 D w0 X dep hE hTg T h33 hT hD hWt
 by_cases h35 : T.kind = 35
 ·by_cases ho : T.kids.length = 1
  ·exact we35a D w0 X dep hE hTg T h35 ho hT hD hWt
  ·exact we35b D w0 X dep hE hTg T h35 ho hT hD hWt
 by_cases h36 : T.kind = 36
 ·exact we36 D w0 X dep hE hTg T h36 hT hD hWt
 by_cases h37 : T.kind = 37
 ·exact we37 D w0 X dep hE hTg T h37 hT hD hWt
 by_cases h38 : T.kind = 38
 ·exact we38 D w0 X dep hE hTg T h38 hT hD hWt
 by_cases h41 : T.kind = 41
 ·exact we41 D w0 X dep hE hTg T h41 hT hD hWt
 by_cases h42 : T.kind = 42
 ·exact we42 D w0 X dep hE hTg T h42 hT hD hWt
 by_cases h43 : T.kind = 43
 ·exact we43 D w0 X dep hE hTg T h43 hT hD hWt
 by_cases h45 : T.kind = 45
 ·exact we45 D w0 X dep hE hTg T h45 hT hD hWt
 by_cases h46 : T.kind = 46
 ·exact we46 D w0 X dep hE hTg T h46 hT hD hWt
 by_cases h48 : T.kind = 48
 ·exact we48 D w0 X dep hE hTg T h48 hT hD hWt
 by_cases h49 : T.kind = 49
 ·exact we49 D w0 X dep hE hTg T h49 hT hD hWt
 refine we_part D w0 X dep T (wPart_ok D w0 X dep hE hTg T hT hD hWt ?_) (beq_eq_false_iff_ne.2 h31) (beq_eq_false_iff_ne.2 h34) (beq_eq_false_iff_ne.2 h32) (beq_eq_false_iff_ne.2 h33) (beq_eq_false_iff_ne.2 h35) (beq_eq_false_iff_ne.2 h36) (beq_eq_false_iff_ne.2 h37) (beq_eq_false_iff_ne.2 h38) (beq_eq_false_iff_ne.2 h41) (beq_eq_false_iff_ne.2 h42) (beq_eq_false_iff_ne.2 h43) (beq_eq_false_iff_ne.2 h45) (beq_eq_false_iff_ne.2 h46) (beq_eq_false_iff_ne.2 h48) (beq_eq_false_iff_ne.2 h49)
 obtain ⟨x, fm, hf, -, -⟩ := te_form hT.te
 have hm := form_at hf
 have hk := hT.2
 simp only [forms, List.mem_cons, List.not_mem_nil, or_false, Prod.mk.injEq] at hm
 omega
theorem wExpr_ok (w0 : World) (X dep : Nat) : ∀ D, EOk D w0 X dep := by
 intro D
 induction D with
 | zero => intro T _ hD; rw [T.depth_eq] at hD; omega
 | succ D ih => exact wExpr_step D w0 X dep ih
end
end Go.Proofs.YtjefhdlncikhmaaGreatDoor
