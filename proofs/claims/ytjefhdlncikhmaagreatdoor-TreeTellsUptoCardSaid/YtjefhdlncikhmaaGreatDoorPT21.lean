/- Joined by a program: Wr4a, Wr4b, Wr4c. -/
import Derived.Test.YtjefhdlncikhmaaGreatDoorPT19
import Derived.Test.YtjefhdlncikhmaaGreatDoorPT20
namespace Go.Proofs.YtjefhdlncikhmaaGreatDoor
set_option linter.unusedVariables false
set_option linter.unusedSimpArgs false
set_option maxRecDepth 1000000
set_option maxHeartbeats 16000000
section
open Go.RowKit
open List (length_append length_cons length_nil length_singleton)
section
variable (D : Nat) (w0 : World) (X dep : Nat) (hE : EOk D w0 X dep) (hTg : TOk D w0 X dep) (T : Nd)
include D w0 X dep hE hTg T
theorem we31 (hk : T.kind = 31) (hT : Ex T) (hD : T.depth ≤ D + 1) (hWt : T.weight ≤ 1000000) : FSays 81 w0 X dep Nd.txt T := by
 have _ := hE
 have _ := hTg
 intro A c K d l0 w hN hBs hW hlen
 have hts : T.txt = tx T := by rw [txt_eq]; simp [txtOf, hk]
 have HTX := Lh hts
 have HLN := Lh (show l0.length + (tx T).length ≤ 1000000000000 by rw [← hts]; exact hlen)
 have z31 : (T.kind == 31) = true := by rw [hk]; rfl
 obtain ⟨z34, z32, z33, z35, z36, z37, z38, z41⟩ := kz8 hk 34 32 33 35 36 37 38 41 rfl
 obtain ⟨z42, z43, z45, z46, z48, z49⟩ := kz6 hk 42 43 45 46 48 49 rfl
 exact lv31
theorem we34 (hk : T.kind = 34) (hT : Ex T) (hD : T.depth ≤ D + 1) (hWt : T.weight ≤ 1000000) : FSays 81 w0 X dep Nd.txt T := by
 have _ := hE
 have _ := hTg
 intro A c K d l0 w hN hBs hW hlen
 have hts : T.txt = tx T := by rw [txt_eq]; simp [txtOf, hk]
 have HTX := Lh hts
 have HLN := Lh (show l0.length + (tx T).length ≤ 1000000000000 by rw [← hts]; exact hlen)
 have z31 : (T.kind == 31) = false := by rw [hk]; rfl
 have z34 : (T.kind == 34) = true := by rw [hk]; rfl
 obtain ⟨z32, z33, z35, z36, z37, z38, z41, z42⟩ := kz8 hk 32 33 35 36 37 38 41 42 rfl
 obtain ⟨z43, z45, z46, z48, z49⟩ := kz5 hk 43 45 46 48 49 rfl
 exact lv31
theorem we32 (hk : T.kind = 32) (hT : Ex T) (hD : T.depth ≤ D + 1) (hWt : T.weight ≤ 1000000) : FSays 81 w0 X dep Nd.txt T := by
 have _ := hE
 have _ := hTg
 intro A c K d l0 w hN hBs hW hlen
 have hts : T.txt = textL (valI T.neg T.mag) := by rw [txt_eq]; simp [txtOf, hk]
 have HTX := Lh hts
 have HLN := Lh (show l0.length + (textL (valI T.neg T.mag)).length ≤ 1000000000000 by rw [← hts]; exact hlen)
 obtain ⟨z31, z34⟩ := kz2 hk 31 34 rfl
 have z32 : (T.kind == 32) = true := by rw [hk]; rfl
 obtain ⟨z33, z35, z36, z37, z38, z41, z42, z43⟩ := kz8 hk 33 35 36 37 38 41 42 43 rfl
 obtain ⟨z45, z46, z48, z49⟩ := kz4 hk 45 46 48 49 rfl
 obtain ⟨hm1, hm2, hrm, hw32, hk1, hk2, hk64, ha64, hts', hKs⟩ := hN.parts
 have hk2' := hk2
 unfold maxLen at hm2 hk2 hts'
 obtain ⟨hk64a, hk64b⟩ := hk64
 obtain ⟨ha64a, ha64b⟩ := ha64
 have hB0 : w0.heap.size ≤ w.heap.size := hBs.size
 have hbX : X < w.heap.size := WrT.lt hW
 have hK0 : WK w0.heap.size X w (w.alloc (bx T.kind T A c K d)) := (WK.refl _ _ _).alloc hB0 _
 have hWb := hW.alloc (bx T.kind T A c K d)
 have hBb : Below w0.heap.size w0 (w.alloc (bx T.kind T A c K d)) := hBs.trans hK0.b
 have hbx := heap_alloc_new w (bx T.kind T A c K d)
 have hsg : (w.alloc (bx T.kind T A c K d)).heap.size = w.heap.size + 1 := by simp
 have hW32 : W32 T.mag := fun z hz => by have := hw32 z hz; omega
 have HTx := Lh (fun W (hb : Below w0.heap.size w0 W) => wText_ok T.neg A c T.mag W hW32 (hrm.later hb) hm1 lq29 lq22)
 clear hW32
 clear hKs hN hlen hE hTg hT hD hWt hrm hw32 hk hts 
 obtain ⟨c0, c1, c2, c3, c4, c5⟩ := (cells_box hbx).box
 have hlb := blt c0
 have hlX := WrT.lt hWb
 unfold ndV
 go_enter Tryz.func81, Tryz.ntmps81
 go_wp2_with fail
 go_at_call 141
 refine (HTx.out _ hBb).mono ?_
 rintro e w_1 ⟨rfl, hbl_1⟩
 have hW_1 := WrT.later hWb hbl_1
 have hk_1 : WK w0.heap.size X _ w_1 := WK.of_below hbl_1 (Nat.le_trans hB0 hK0.b.size)
 have hK_1 := hK0.trans hk_1
 have hbx := box_keep hk_1 hbx hbX
 have hB_1 : Below w0.heap.size w0 w_1 := hBs.trans hK_1.b
 obtain ⟨c0, c1, c2, c3, c4, c5⟩ := (cells_box hbx).box
 have hlb := blt c0
 have hlX := WrT.lt hW_1
 go_wp2_with fail
 have hWa := hW_1.alloc (.cells #[.string (ba (textL (valI T.neg T.mag)))] 9)
 have hKa := hK_1.alloc (Nat.le_trans hB0 hK_1.b.size) (.cells #[.string (ba (textL (valI T.neg T.mag)))] 9)
 have hbxa := (Lib.alloc_old _ (.cells #[.string (ba (textL (valI T.neg T.mag)))] 9) _ hlb).trans hbx
 go_at_call 84
 refine (wSayT_ok w0.heap.size X dep _ (textL (valI T.neg T.mag)) [ba (textL (valI T.neg T.mag))] 1 _ _ hWa rfl (WrT.lt hW_1) (heap_alloc_new _ _) (by simp [ba]) lq28 lq8 (Nat.le_trans hB0 hKa.b.size)).mono ?_
 exact lv121
theorem we33 (hk : T.kind = 33) (hT : Ex T) (hD : T.depth ≤ D + 1) (hWt : T.weight ≤ 1000000) : FSays 81 w0 X dep Nd.txt T := by
 have _ := hE
 have _ := hTg
 intro A c K d l0 w hN hBs hW hlen
 have hts : T.txt = quoteL (pieces T.text.data.toList) := by rw [txt_eq]; simp [txtOf, hk, tx]
 have HTX := Lh hts
 have HLN := Lh (show l0.length + (quoteL (pieces T.text.data.toList)).length ≤ 1000000000000 by rw [← hts]; exact hlen)
 obtain ⟨z31, z34, z32⟩ := kz3 hk 31 34 32 rfl
 have z33 : (T.kind == 33) = true := by rw [hk]; rfl
 obtain ⟨z35, z36, z37, z38, z41, z42, z43, z45⟩ := kz8 hk 35 36 37 38 41 42 43 45 rfl
 obtain ⟨z46, z48, z49⟩ := kz3 hk 46 48 49 rfl
 obtain ⟨hm1, hm2, hrm, hw32, hk1, hk2, hk64, ha64, hts', hKs⟩ := hN.parts
 have hk2' := hk2
 unfold maxLen at hm2 hk2 hts'
 obtain ⟨hk64a, hk64b⟩ := hk64
 obtain ⟨ha64a, ha64b⟩ := ha64
 have hB0 : w0.heap.size ≤ w.heap.size := hBs.size
 have hbX : X < w.heap.size := WrT.lt hW
 have hK0 : WK w0.heap.size X w (w.alloc (bx T.kind T A c K d)) := (WK.refl _ _ _).alloc hB0 _
 have hWb := hW.alloc (bx T.kind T A c K d)
 have hBb : Below w0.heap.size w0 (w.alloc (bx T.kind T A c K d)) := hBs.trans hK0.b
 have hbx := heap_alloc_new w (bx T.kind T A c K d)
 have hsg : (w.alloc (bx T.kind T A c K d)).heap.size = w.heap.size + 1 := by simp
 have HTx := Lh (fun W => quote_ok T.text W lq22)
 clear hKs hN hlen hE hTg hT hD hWt hrm hw32 hk hts 
 obtain ⟨c0, c1, c2, c3, c4, c5⟩ := (cells_box hbx).box
 have hlb := blt c0
 have hlX := WrT.lt hWb
 unfold ndV
 go_enter Tryz.func81, Tryz.ntmps81
 go_wp2_with fail
 go_at_call 142
 refine (HTx.out _).mono ?_
 rintro e w_1 ⟨rfl, hbl_1⟩
 have hW_1 := WrT.later hWb hbl_1
 have hk_1 : WK w0.heap.size X _ w_1 := WK.of_below hbl_1 (Nat.le_trans hB0 hK0.b.size)
 have hK_1 := hK0.trans hk_1
 have hbx := box_keep hk_1 hbx hbX
 have hB_1 : Below w0.heap.size w0 w_1 := hBs.trans hK_1.b
 obtain ⟨c0, c1, c2, c3, c4, c5⟩ := (cells_box hbx).box
 have hlb := blt c0
 have hlX := WrT.lt hW_1
 go_wp2_with fail
 have hWa := hW_1.alloc (.cells #[.string (ba (quoteL (pieces T.text.data.toList)))] 9)
 have hKa := hK_1.alloc (Nat.le_trans hB0 hK_1.b.size) (.cells #[.string (ba (quoteL (pieces T.text.data.toList)))] 9)
 have hbxa := (Lib.alloc_old _ (.cells #[.string (ba (quoteL (pieces T.text.data.toList)))] 9) _ hlb).trans hbx
 go_at_call 84
 refine (wSayT_ok w0.heap.size X dep _ (quoteL (pieces T.text.data.toList)) [ba (quoteL (pieces T.text.data.toList))] 1 _ _ hWa rfl (WrT.lt hW_1) (heap_alloc_new _ _) (by simp [ba]) lq28 lq8 (Nat.le_trans hB0 hKa.b.size)).mono ?_
 exact lv121
theorem we36 (hk : T.kind = 36) (hT : Ex T) (hD : T.depth ≤ D + 1) (hWt : T.weight ≤ 1000000) : FSays 81 w0 X dep Nd.txt T := by
 have _ := hTg
 intro A c K d l0 w hN hBs hW hlen
 have hts : T.txt = [91] ++ sepL com (T.kids.map Nd.txt) ++ [93] := by rw [txt_eq]; simp [txtOf, hk]
 have HTX := Lh hts
 have HLN := Lh (show l0.length + ([91] ++ sepL com (T.kids.map Nd.txt) ++ [93]).length ≤ 1000000000000 by rw [← hts]; exact hlen)
 obtain ⟨z31, z34, z32, z33, z35⟩ := kz5 hk 31 34 32 33 35 rfl
 have z36 : (T.kind == 36) = true := by rw [hk]; rfl
 obtain ⟨z37, z38, z41, z42, z43, z45, z46, z48⟩ := kz8 hk 37 38 41 42 43 45 46 48 rfl
 have z49 : (T.kind == 49) = false := by rw [hk]; rfl
 obtain ⟨hm1, hm2, hrm, hw32, hk1, hk2, hk64, ha64, hts', hKs⟩ := hN.parts
 have hk2' := hk2
 unfold maxLen at hm2 hk2 hts'
 obtain ⟨hk64a, hk64b⟩ := hk64
 obtain ⟨ha64a, ha64b⟩ := ha64
 have hB0 : w0.heap.size ≤ w.heap.size := hBs.size
 have hbX : X < w.heap.size := WrT.lt hW
 have hK0 : WK w0.heap.size X w (w.alloc (bx T.kind T A c K d)) := (WK.refl _ _ _).alloc hB0 _
 have hWb := hW.alloc (bx T.kind T A c K d)
 have hBb : Below w0.heap.size w0 (w.alloc (bx T.kind T A c K d)) := hBs.trans hK0.b
 have hbx := heap_alloc_new w (bx T.kind T A c K d)
 have hsg : (w.alloc (bx T.kind T A c K d)).heap.size = w.heap.size + 1 := by simp
 have HFA := Lh (fun (t : Nd) (ht : t ∈ T.kids) => hE t (ex_kids hT lq29 lq29 lq29 t ht) (wKM hD hWt t ht).1 (wKM hD hWt t ht).2)
 have HKA := Lh hKs
 clear hKs hN hlen hE hTg hT hD hWt hrm hw32 hk hts 
 obtain ⟨c0, c1, c2, c3, c4, c5⟩ := (cells_box hbx).box
 have hlb := blt c0
 have hlX := WrT.lt hWb
 unfold ndV
 go_enter Tryz.func81, Tryz.ntmps81
 go_wp2_with fail
 have hI := wBetween_ok ⟨#[91]⟩ ⟨#[93]⟩ T.kids T.kids.length K d w0 X dep _ _ rfl HKA.out HFA.out hk1 hk2' hBb hWb lq8
 exact lv115
end

section
variable (D : Nat) (w0 : World) (X dep : Nat) (hE : EOk D w0 X dep) (hTg : TOk D w0 X dep) (T : Nd)
include D w0 X dep hE hTg T
theorem we37 (hk : T.kind = 37) (hT : Ex T) (hD : T.depth ≤ D + 1) (hWt : T.weight ≤ 1000000) : FSays 81 w0 X dep Nd.txt T := by
 have _ := hE
 have _ := hTg
 intro A c K d l0 w hN hBs hW hlen
 have hts : T.txt = [123] ++ sepL com (T.kids.map Nd.txt) ++ [125] := by rw [txt_eq]; simp [txtOf, hk]
 have HTX := Lh hts
 have HLN := Lh (show l0.length + ([123] ++ sepL com (T.kids.map Nd.txt) ++ [125]).length ≤ 1000000000000 by rw [← hts]; exact hlen)
 obtain ⟨z31, z34, z32, z33, z35, z36⟩ := kz6 hk 31 34 32 33 35 36 rfl
 have z37 : (T.kind == 37) = true := by rw [hk]; rfl
 obtain ⟨z38, z41, z42, z43, z45, z46, z48, z49⟩ := kz8 hk 38 41 42 43 45 46 48 49 rfl
 exact lv32
theorem we38 (hk : T.kind = 38) (hT : Ex T) (hD : T.depth ≤ D + 1) (hWt : T.weight ≤ 1000000) : FSays 81 w0 X dep Nd.txt T := by
 have _ := hE
 have _ := hTg
 intro A c K d l0 w hN hBs hW hlen
 have hts : T.txt = [123] ++ sepL com (T.kids.map Nd.txt) ++ [125] := by rw [txt_eq]; simp [txtOf, hk]
 have HTX := Lh hts
 have HLN := Lh (show l0.length + ([123] ++ sepL com (T.kids.map Nd.txt) ++ [125]).length ≤ 1000000000000 by rw [← hts]; exact hlen)
 obtain ⟨z31, z34, z32, z33, z35, z36, z37⟩ := kz7 hk 31 34 32 33 35 36 37 rfl
 have z38 : (T.kind == 38) = true := by rw [hk]; rfl
 obtain ⟨z41, z42, z43, z45, z46, z48, z49⟩ := kz7 hk 41 42 43 45 46 48 49 rfl
 exact lv32
end

section
variable (D : Nat) (w0 : World) (X dep : Nat) (hE : EOk D w0 X dep) (hTg : TOk D w0 X dep) (T : Nd)
include D w0 X dep hE hTg T
theorem we45 (hk : T.kind = 45) (hT : Ex T) (hD : T.depth ≤ D + 1) (hWt : T.weight ≤ 1000000) : FSays 81 w0 X dep Nd.txt T := by
 have _ := hTg
 intro A c K d l0 w hN hBs hW hlen
 have hts : T.txt = [40] ++ gl (T.kids.map Nd.txt) 0 ++ [32, 111, 114, 32] ++ gl (T.kids.map Nd.txt) 1 ++ [41] := by rw [txt_eq]; simp [txtOf, hk]
 have HTX := Lh hts
 have HLN := Lh (show l0.length + ([40] ++ gl (T.kids.map Nd.txt) 0 ++ [32, 111, 114, 32] ++ gl (T.kids.map Nd.txt) 1 ++ [41]).length ≤ 1000000000000 by rw [← hts]; exact hlen)
 obtain ⟨z31, z34, z32, z33, z35, z36, z37, z38⟩ := kz8 hk 31 34 32 33 35 36 37 38 rfl
 obtain ⟨z41, z42, z43⟩ := kz3 hk 41 42 43 rfl
 have z45 : (T.kind == 45) = true := by rw [hk]; rfl
 obtain ⟨z46, z48, z49⟩ := kz3 hk 46 48 49 rfl
 obtain ⟨hm1, hm2, hrm, hw32, hk1, hk2, hk64, ha64, hts', hKs⟩ := hN.parts
 have hk2' := hk2
 unfold maxLen at hm2 hk2 hts'
 obtain ⟨hk64a, hk64b⟩ := hk64
 obtain ⟨ha64a, ha64b⟩ := ha64
 have hB0 : w0.heap.size ≤ w.heap.size := hBs.size
 have hbX : X < w.heap.size := WrT.lt hW
 have hK0 : WK w0.heap.size X w (w.alloc (bx T.kind T A c K d)) := (WK.refl _ _ _).alloc hB0 _
 have hWb := hW.alloc (bx T.kind T A c K d)
 have hBb : Below w0.heap.size w0 (w.alloc (bx T.kind T A c K d)) := hBs.trans hK0.b
 have hbx := heap_alloc_new w (bx T.kind T A c K d)
 have hsg : (w.alloc (bx T.kind T A c K d)).heap.size = w.heap.size + 1 := by simp
 have HFA := Lh (fun (t : Nd) (ht : t ∈ T.kids) => hE t (ex_kids hT lq29 lq29 lq29 t ht) (wKM hD hWt t ht).1 (wKM hD hWt t ht).2)
 have HKA := Lh hKs
 have hl2 : T.kids.length = 2 := len_row hk hT.1 (tx := .non) (L := [.expr, .expr]) rfl lq28
 have HL2 := Lh hl2
 clear hl2
 clear hKs hN hlen hE hTg hT hD hWt hrm hw32 hk hts 
 obtain ⟨c0, c1, c2, c3, c4, c5⟩ := (cells_box hbx).box
 have hlb := blt c0
 have hlX := WrT.lt hWb
 unfold ndV
 go_enter Tryz.func81, Tryz.ntmps81
 go_wp2_with fail
 have hI := wTwo_ok ⟨#[111, 114]⟩ T.kids T.kids.length K d w0 X dep _ _ rfl HL2.out HKA.out HFA.out hk1 hk2' hBb hWb _ rfl lq8
 exact lv116
theorem we46 (hk : T.kind = 46) (hT : Ex T) (hD : T.depth ≤ D + 1) (hWt : T.weight ≤ 1000000) : FSays 81 w0 X dep Nd.txt T := by
 have _ := hTg
 intro A c K d l0 w hN hBs hW hlen
 have hts : T.txt = [40] ++ gl (T.kids.map Nd.txt) 0 ++ [32, 97, 110, 100, 32] ++ gl (T.kids.map Nd.txt) 1 ++ [41] := by rw [txt_eq]; simp [txtOf, hk]
 have HTX := Lh hts
 have HLN := Lh (show l0.length + ([40] ++ gl (T.kids.map Nd.txt) 0 ++ [32, 97, 110, 100, 32] ++ gl (T.kids.map Nd.txt) 1 ++ [41]).length ≤ 1000000000000 by rw [← hts]; exact hlen)
 obtain ⟨z31, z34, z32, z33, z35, z36, z37, z38⟩ := kz8 hk 31 34 32 33 35 36 37 38 rfl
 obtain ⟨z41, z42, z43, z45⟩ := kz4 hk 41 42 43 45 rfl
 have z46 : (T.kind == 46) = true := by rw [hk]; rfl
 obtain ⟨z48, z49⟩ := kz2 hk 48 49 rfl
 obtain ⟨hm1, hm2, hrm, hw32, hk1, hk2, hk64, ha64, hts', hKs⟩ := hN.parts
 have hk2' := hk2
 unfold maxLen at hm2 hk2 hts'
 obtain ⟨hk64a, hk64b⟩ := hk64
 obtain ⟨ha64a, ha64b⟩ := ha64
 have hB0 : w0.heap.size ≤ w.heap.size := hBs.size
 have hbX : X < w.heap.size := WrT.lt hW
 have hK0 : WK w0.heap.size X w (w.alloc (bx T.kind T A c K d)) := (WK.refl _ _ _).alloc hB0 _
 have hWb := hW.alloc (bx T.kind T A c K d)
 have hBb : Below w0.heap.size w0 (w.alloc (bx T.kind T A c K d)) := hBs.trans hK0.b
 have hbx := heap_alloc_new w (bx T.kind T A c K d)
 have hsg : (w.alloc (bx T.kind T A c K d)).heap.size = w.heap.size + 1 := by simp
 have HFA := Lh (fun (t : Nd) (ht : t ∈ T.kids) => hE t (ex_kids hT lq29 lq29 lq29 t ht) (wKM hD hWt t ht).1 (wKM hD hWt t ht).2)
 have HKA := Lh hKs
 have hl2 : T.kids.length = 2 := len_row hk hT.1 (tx := .non) (L := [.expr, .expr]) rfl lq28
 have HL2 := Lh hl2
 clear hl2
 clear hKs hN hlen hE hTg hT hD hWt hrm hw32 hk hts 
 obtain ⟨c0, c1, c2, c3, c4, c5⟩ := (cells_box hbx).box
 have hlb := blt c0
 have hlX := WrT.lt hWb
 unfold ndV
 go_enter Tryz.func81, Tryz.ntmps81
 go_wp2_with fail
 have hI := wTwo_ok ⟨#[97, 110, 100]⟩ T.kids T.kids.length K d w0 X dep _ _ rfl HL2.out HKA.out HFA.out hk1 hk2' hBb hWb _ rfl lq8
 exact lv116
theorem we48 (hk : T.kind = 48) (hT : Ex T) (hD : T.depth ≤ D + 1) (hWt : T.weight ≤ 1000000) : FSays 81 w0 X dep Nd.txt T := by
 have _ := hTg
 intro A c K d l0 w hN hBs hW hlen
 have hts : T.txt = [40] ++ gl (T.kids.map Nd.txt) 0 ++ [32] ++ T.text.data.toList ++ [32] ++ gl (T.kids.map Nd.txt) 1 ++ [41] := by rw [txt_eq]; simp [txtOf, hk, tx]
 have HTX := Lh hts
 have HLN := Lh (show l0.length + ([40] ++ gl (T.kids.map Nd.txt) 0 ++ [32] ++ T.text.data.toList ++ [32] ++ gl (T.kids.map Nd.txt) 1 ++ [41]).length ≤ 1000000000000 by rw [← hts]; exact hlen)
 obtain ⟨z31, z34, z32, z33, z35, z36, z37, z38⟩ := kz8 hk 31 34 32 33 35 36 37 38 rfl
 obtain ⟨z41, z42, z43, z45, z46⟩ := kz5 hk 41 42 43 45 46 rfl
 have z48 : (T.kind == 48) = true := by rw [hk]; rfl
 have z49 : (T.kind == 49) = false := by rw [hk]; rfl
 obtain ⟨hm1, hm2, hrm, hw32, hk1, hk2, hk64, ha64, hts', hKs⟩ := hN.parts
 have hk2' := hk2
 unfold maxLen at hm2 hk2 hts'
 obtain ⟨hk64a, hk64b⟩ := hk64
 obtain ⟨ha64a, ha64b⟩ := ha64
 have hB0 : w0.heap.size ≤ w.heap.size := hBs.size
 have hbX : X < w.heap.size := WrT.lt hW
 have hK0 : WK w0.heap.size X w (w.alloc (bx T.kind T A c K d)) := (WK.refl _ _ _).alloc hB0 _
 have hWb := hW.alloc (bx T.kind T A c K d)
 have hBb : Below w0.heap.size w0 (w.alloc (bx T.kind T A c K d)) := hBs.trans hK0.b
 have hbx := heap_alloc_new w (bx T.kind T A c K d)
 have hsg : (w.alloc (bx T.kind T A c K d)).heap.size = w.heap.size + 1 := by simp
 have HFA := Lh (fun (t : Nd) (ht : t ∈ T.kids) => hE t (ex_kids hT lq29 lq29 lq29 t ht) (wKM hD hWt t ht).1 (wKM hD hWt t ht).2)
 have HKA := Lh hKs
 have hl2 : T.kids.length = 2 := len_row hk hT.1 (tx := (.words compsL)) (L := [.expr, .expr]) rfl lq28
 exact lv78
theorem we49 (hk : T.kind = 49) (hT : Ex T) (hD : T.depth ≤ D + 1) (hWt : T.weight ≤ 1000000) : FSays 81 w0 X dep Nd.txt T := by
 have _ := hTg
 intro A c K d l0 w hN hBs hW hlen
 have hts : T.txt = [40] ++ gl (T.kids.map Nd.txt) 0 ++ [32] ++ T.text.data.toList ++ [32] ++ gl (T.kids.map Nd.txt) 1 ++ [41] := by rw [txt_eq]; simp [txtOf, hk, tx]
 have HTX := Lh hts
 have HLN := Lh (show l0.length + ([40] ++ gl (T.kids.map Nd.txt) 0 ++ [32] ++ T.text.data.toList ++ [32] ++ gl (T.kids.map Nd.txt) 1 ++ [41]).length ≤ 1000000000000 by rw [← hts]; exact hlen)
 obtain ⟨z31, z34, z32, z33, z35, z36, z37, z38⟩ := kz8 hk 31 34 32 33 35 36 37 38 rfl
 obtain ⟨z41, z42, z43, z45, z46, z48⟩ := kz6 hk 41 42 43 45 46 48 rfl
 have z49 : (T.kind == 49) = true := by rw [hk]; rfl
 obtain ⟨hm1, hm2, hrm, hw32, hk1, hk2, hk64, ha64, hts', hKs⟩ := hN.parts
 have hk2' := hk2
 unfold maxLen at hm2 hk2 hts'
 obtain ⟨hk64a, hk64b⟩ := hk64
 obtain ⟨ha64a, ha64b⟩ := ha64
 have hB0 : w0.heap.size ≤ w.heap.size := hBs.size
 have hbX : X < w.heap.size := WrT.lt hW
 have hK0 : WK w0.heap.size X w (w.alloc (bx T.kind T A c K d)) := (WK.refl _ _ _).alloc hB0 _
 have hWb := hW.alloc (bx T.kind T A c K d)
 have hBb : Below w0.heap.size w0 (w.alloc (bx T.kind T A c K d)) := hBs.trans hK0.b
 have hbx := heap_alloc_new w (bx T.kind T A c K d)
 have hsg : (w.alloc (bx T.kind T A c K d)).heap.size = w.heap.size + 1 := by simp
 have HFA := Lh (fun (t : Nd) (ht : t ∈ T.kids) => hE t (ex_kids hT lq29 lq29 lq29 t ht) (wKM hD hWt t ht).1 (wKM hD hWt t ht).2)
 have HKA := Lh hKs
 have hl2 : T.kids.length = 2 := len_row hk hT.1 (tx := (.words signsL)) (L := [.expr, .expr]) rfl lq28
 exact lv78
end

end
end Go.Proofs.YtjefhdlncikhmaaGreatDoor
