/- Joined by a program: Rt2a, Rt2b, Rt2c, Rt3a, Rt3b. -/
import Derived.Test.YtjefhdlncikhmaaGreatDoorPT38
namespace Go.Proofs.YtjefhdlncikhmaaGreatDoor
set_option linter.unusedVariables false
set_option linter.unusedSimpArgs false
set_option maxRecDepth 1000000
set_option maxHeartbeats 16000000
section
open Go.RowKit
open List (length_append length_cons length_nil length_singleton)
section
variable (D : Nat) (hR : RTxOk D) (T : Nd) (A : Option Addr) (c : Nat) (K : Option Addr) (d : Nat) (w : World)
include D hR T A c K d w
theorem rt31 (hk : T.kind = 31) (hT : Te T) (hD : T.depth ≤ D + 1) (hWt : T.weight ≤ 1000000) (hN : NodeAt w T A c K d) :
  Calls Tryz.prog 99 #[ndV T A c K d] w fun e w' => e = .returned (.string (ba T.txt)) ∧ Below w.heap.size w w' := by
 have _ := hR
 have hts : T.txt = tx T := by rw [txt_eq]; simp [txtOf, hk]
 have HTX := Lh hts
 have z31 : (T.kind == 31) = true := by rw [hk]; rfl
 obtain ⟨z34, z32, z33, z23, z35, z36, z37, z38⟩ := kz8 hk 34 32 33 23 35 36 37 38 rfl
 obtain ⟨z39, z40, z41, z42, z43, z44, z45, z46⟩ := kz8 hk 39 40 41 42 43 44 45 46 rfl
 obtain ⟨z48, z49, z47, z50, z51, z52, z54⟩ := kz7 hk 48 49 47 50 51 52 54 rfl
 exact lv129
theorem rt34 (hk : T.kind = 34) (hT : Te T) (hD : T.depth ≤ D + 1) (hWt : T.weight ≤ 1000000) (hN : NodeAt w T A c K d) :
  Calls Tryz.prog 99 #[ndV T A c K d] w fun e w' => e = .returned (.string (ba T.txt)) ∧ Below w.heap.size w w' := by
 have _ := hR
 have hts : T.txt = tx T := by rw [txt_eq]; simp [txtOf, hk]
 have HTX := Lh hts
 have z31 : (T.kind == 31) = false := by rw [hk]; rfl
 have z34 : (T.kind == 34) = true := by rw [hk]; rfl
 obtain ⟨z32, z33, z23, z35, z36, z37, z38, z39⟩ := kz8 hk 32 33 23 35 36 37 38 39 rfl
 obtain ⟨z40, z41, z42, z43, z44, z45, z46, z48⟩ := kz8 hk 40 41 42 43 44 45 46 48 rfl
 obtain ⟨z49, z47, z50, z51, z52, z54⟩ := kz6 hk 49 47 50 51 52 54 rfl
 exact lv129
theorem rt32 (hk : T.kind = 32) (hT : Te T) (hD : T.depth ≤ D + 1) (hWt : T.weight ≤ 1000000) (hN : NodeAt w T A c K d) :
  Calls Tryz.prog 99 #[ndV T A c K d] w fun e w' => e = .returned (.string (ba T.txt)) ∧ Below w.heap.size w w' := by
 have _ := hR
 have HX := Lh (fun W (hb : Below w.heap.size w W) => refText_ok T.neg A c T.mag W (fun z hz => by have := hN.parts.2.2.2.1 z hz; omega) (hN.parts.2.2.1.later hb) hN.parts.1 hN.parts.2.1 lq22)
 have hts : T.txt = textL (valI T.neg T.mag) := by rw [txt_eq]; simp [txtOf, hk]
 have HTX := Lh hts
 obtain ⟨z31, z34⟩ := kz2 hk 31 34 rfl
 have z32 : (T.kind == 32) = true := by rw [hk]; rfl
 obtain ⟨z33, z23, z35, z36, z37, z38, z39, z40⟩ := kz8 hk 33 23 35 36 37 38 39 40 rfl
 obtain ⟨z41, z42, z43, z44, z45, z46, z48, z49⟩ := kz8 hk 41 42 43 44 45 46 48 49 rfl
 obtain ⟨z47, z50, z51, z52, z54⟩ := kz5 hk 47 50 51 52 54 rfl
 have hoK := nodeAt_okN T hN
 have hzT := ba_len hoK hWt
 clear hoK hts
 obtain ⟨hm1, hm2, hrm, hw32, hk1, hk2, ⟨hk64a, hk64b⟩, ⟨ha64a, ha64b⟩, hts, hKs, HK⟩ := hN.hd
 obtain ⟨hb1, c0, c1, c2, c3, c4, c5⟩ := bxn w T A c K d
 unfold ndV
 clear hKs hN hR hT hD hWt hk hrm hw32 
 go_enter Tryz.func99, Tryz.ntmps99
 go_wp2_with fail
 have hI := HX.out _ hb1
 go_at_call 158
 exact lv150
theorem rt33 (hk : T.kind = 33) (hT : Te T) (hD : T.depth ≤ D + 1) (hWt : T.weight ≤ 1000000) (hN : NodeAt w T A c K d) :
  Calls Tryz.prog 99 #[ndV T A c K d] w fun e w' => e = .returned (.string (ba T.txt)) ∧ Below w.heap.size w w' := by
 have _ := hR
 have HX := Lh (fun W (_ : Below w.heap.size w W) => refQuote_ok T.text W lq22)
 have hts : T.txt = quoteL (pieces T.text.data.toList) := by rw [txt_eq]; simp [txtOf, hk, tx]
 have HTX := Lh hts
 obtain ⟨z31, z34, z32⟩ := kz3 hk 31 34 32 rfl
 have z33 : (T.kind == 33) = true := by rw [hk]; rfl
 obtain ⟨z23, z35, z36, z37, z38, z39, z40, z41⟩ := kz8 hk 23 35 36 37 38 39 40 41 rfl
 obtain ⟨z42, z43, z44, z45, z46, z48, z49, z47⟩ := kz8 hk 42 43 44 45 46 48 49 47 rfl
 obtain ⟨z50, z51, z52, z54⟩ := kz4 hk 50 51 52 54 rfl
 have hoK := nodeAt_okN T hN
 have hzT := ba_len hoK hWt
 clear hoK hts
 obtain ⟨hm1, hm2, hrm, hw32, hk1, hk2, ⟨hk64a, hk64b⟩, ⟨ha64a, ha64b⟩, hts, hKs, HK⟩ := hN.hd
 obtain ⟨hb1, c0, c1, c2, c3, c4, c5⟩ := bxn w T A c K d
 unfold ndV
 clear hKs hN hR hT hD hWt hk hrm hw32 
 go_enter Tryz.func99, Tryz.ntmps99
 go_wp2_with fail
 have hI := HX.out _ hb1
 go_at_call 159
 exact lv150
theorem rt23 (hk : T.kind = 23) (hT : Te T) (hD : T.depth ≤ D + 1) (hWt : T.weight ≤ 1000000) (hN : NodeAt w T A c K d) :
  Calls Tryz.prog 99 #[ndV T A c K d] w fun e w' => e = .returned (.string (ba T.txt)) ∧ Below w.heap.size w w' := by
 have HKA := Lh hN.parts.2.2.2.2.2.2.2.2.2
 have HTE := Lh (te_kids hT)
 have HWI := Lh (wKM hD hWt)
 have HWL := Lh (show weights T.kids ≤ 1000000 by have := T.weight_eq; omega)
 have HR := Lh hR
 have hk2' := hN.parts.2.2.2.2.2.1
 have hsb := sep_bound com T.kids (kidsAt_okN hN.parts.2.2.2.2.2.2.2.2.2) lq28
 have hzr : (ba (sepL com (T.kids.map Nd.txt))).size ≤ 2000000000 := by rw [ba_size]; have := T.weight_eq; have := weights_len T.kids; omega
 clear hsb
 have hts : T.txt = sepL com (T.kids.map Nd.txt) := by rw [txt_eq]; simp [txtOf, hk]
 have HTX := Lh hts
 obtain ⟨z31, z34, z32, z33⟩ := kz4 hk 31 34 32 33 rfl
 have z23 : (T.kind == 23) = true := by rw [hk]; rfl
 obtain ⟨z35, z36, z37, z38, z39, z40, z41, z42⟩ := kz8 hk 35 36 37 38 39 40 41 42 rfl
 obtain ⟨z43, z44, z45, z46, z48, z49, z47, z50⟩ := kz8 hk 43 44 45 46 48 49 47 50 rfl
 obtain ⟨z51, z52, z54⟩ := kz3 hk 51 52 54 rfl
 exact lv94
theorem rt36 (hk : T.kind = 36) (hT : Te T) (hD : T.depth ≤ D + 1) (hWt : T.weight ≤ 1000000) (hN : NodeAt w T A c K d) :
  Calls Tryz.prog 99 #[ndV T A c K d] w fun e w' => e = .returned (.string (ba T.txt)) ∧ Below w.heap.size w w' := by
 have HKA := Lh hN.parts.2.2.2.2.2.2.2.2.2
 have HTE := Lh (te_kids hT)
 have HWI := Lh (wKM hD hWt)
 have HWL := Lh (show weights T.kids ≤ 1000000 by have := T.weight_eq; omega)
 have HR := Lh hR
 have hk2' := hN.parts.2.2.2.2.2.1
 have hsb := sep_bound com T.kids (kidsAt_okN hN.parts.2.2.2.2.2.2.2.2.2) lq28
 have hzr : (ba (sepL com (T.kids.map Nd.txt))).size ≤ 2000000000 := by rw [ba_size]; have := T.weight_eq; have := weights_len T.kids; omega
 clear hsb
 have hts : T.txt = [91] ++ sepL com (T.kids.map Nd.txt) ++ [93] := by rw [txt_eq]; simp [txtOf, hk]
 have HTX := Lh hts
 obtain ⟨z31, z34, z32, z33, z23, z35⟩ := kz6 hk 31 34 32 33 23 35 rfl
 have z36 : (T.kind == 36) = true := by rw [hk]; rfl
 obtain ⟨z37, z38, z39, z40, z41, z42, z43, z44⟩ := kz8 hk 37 38 39 40 41 42 43 44 rfl
 obtain ⟨z45, z46, z48, z49, z47, z50, z51, z52⟩ := kz8 hk 45 46 48 49 47 50 51 52 rfl
 have z54 : (T.kind == 54) = false := by rw [hk]; rfl
 exact lv94
end

section
variable (D : Nat) (hR : RTxOk D) (T : Nd) (A : Option Addr) (c : Nat) (K : Option Addr) (d : Nat) (w : World)
include D hR T A c K d w
theorem rt37 (hk : T.kind = 37) (hT : Te T) (hD : T.depth ≤ D + 1) (hWt : T.weight ≤ 1000000) (hN : NodeAt w T A c K d) :
  Calls Tryz.prog 99 #[ndV T A c K d] w fun e w' => e = .returned (.string (ba T.txt)) ∧ Below w.heap.size w w' := by
 have HKA := Lh hN.parts.2.2.2.2.2.2.2.2.2
 have HTE := Lh (te_kids hT)
 have HWI := Lh (wKM hD hWt)
 have HWL := Lh (show weights T.kids ≤ 1000000 by have := T.weight_eq; omega)
 have HR := Lh hR
 have hk2' := hN.parts.2.2.2.2.2.1
 have hsb := sep_bound com T.kids (kidsAt_okN hN.parts.2.2.2.2.2.2.2.2.2) lq28
 have hzr : (ba (sepL com (T.kids.map Nd.txt))).size ≤ 2000000000 := by rw [ba_size]; have := T.weight_eq; have := weights_len T.kids; omega
 clear hsb
 have hts : T.txt = [123] ++ sepL com (T.kids.map Nd.txt) ++ [125] := by rw [txt_eq]; simp [txtOf, hk]
 have HTX := Lh hts
 obtain ⟨z31, z34, z32, z33, z23, z35, z36⟩ := kz7 hk 31 34 32 33 23 35 36 rfl
 have z37 : (T.kind == 37) = true := by rw [hk]; rfl
 obtain ⟨z38, z39, z40, z41, z42, z43, z44, z45⟩ := kz8 hk 38 39 40 41 42 43 44 45 rfl
 obtain ⟨z46, z48, z49, z47, z50, z51, z52, z54⟩ := kz8 hk 46 48 49 47 50 51 52 54 rfl
 exact lv94
theorem rt38 (hk : T.kind = 38) (hT : Te T) (hD : T.depth ≤ D + 1) (hWt : T.weight ≤ 1000000) (hN : NodeAt w T A c K d) :
  Calls Tryz.prog 99 #[ndV T A c K d] w fun e w' => e = .returned (.string (ba T.txt)) ∧ Below w.heap.size w w' := by
 have HKA := Lh hN.parts.2.2.2.2.2.2.2.2.2
 have HTE := Lh (te_kids hT)
 have HWI := Lh (wKM hD hWt)
 have HWL := Lh (show weights T.kids ≤ 1000000 by have := T.weight_eq; omega)
 have HR := Lh hR
 have hk2' := hN.parts.2.2.2.2.2.1
 have hsb := sep_bound com T.kids (kidsAt_okN hN.parts.2.2.2.2.2.2.2.2.2) lq28
 have hzr : (ba (sepL com (T.kids.map Nd.txt))).size ≤ 2000000000 := by rw [ba_size]; have := T.weight_eq; have := weights_len T.kids; omega
 clear hsb
 have hts : T.txt = [123] ++ sepL com (T.kids.map Nd.txt) ++ [125] := by rw [txt_eq]; simp [txtOf, hk]
 have HTX := Lh hts
 obtain ⟨z31, z34, z32, z33, z23, z35, z36, z37⟩ := kz8 hk 31 34 32 33 23 35 36 37 rfl
 have z38 : (T.kind == 38) = true := by rw [hk]; rfl
 obtain ⟨z39, z40, z41, z42, z43, z44, z45, z46⟩ := kz8 hk 39 40 41 42 43 44 45 46 rfl
 obtain ⟨z48, z49, z47, z50, z51, z52, z54⟩ := kz7 hk 48 49 47 50 51 52 54 rfl
 exact lv94
theorem rt35a (hk : T.kind = 35) (hone : T.kids.length = 1) (hT : Te T) (hD : T.depth ≤ D + 1) (hWt : T.weight ≤ 1000000) (hN : NodeAt w T A c K d) :
  Calls Tryz.prog 99 #[ndV T A c K d] w fun e w' => e = .returned (.string (ba T.txt)) ∧ Below w.heap.size w w' := by
 have el : ((T.kids.length : Int) == 1) = true := by rw [hone]; rfl
 have hlen3 := hone
 obtain ⟨t0, hks⟩ := kids_1 (l := T.kids) hlen3
 have hg0 : T.kids[0]? = some t0 := by rw [hks]; rfl
 obtain ⟨b, off, A0, c0', K0, d0, hKe0, hC0, hN0⟩ := hN.kid hg0
 have hm0 := mog hg0
 have hd0 : t0.depth ≤ D ∧ t0.weight ≤ 1000000 := wKM hD hWt t0 hm0
 have hz0 := ba_len (nodeAt_okN t0 hN0) hd0.2
 rw [Nat.zero_mul, Nat.add_zero] at hC0
 subst hKe0
 have HR0 := Lh (fun W (hb : Below w.heap.size w W) => hR t0 A0 c0' K0 d0 W (te_kids hT t0 hm0) hd0.1 hd0.2 (hN0.later hb))
 have i0 : (0 : Int) < (T.kids.length : Int) := by omega
 have i0' : 0 < T.kids.length := by omega
 have hts : T.txt = [40] ++ t0.txt ++ [44, 41] := by rw [txt_eq, hks]; simp [txtOf, hk, gl]
 have HTX := Lh hts
 obtain ⟨z31, z34, z32, z33, z23⟩ := kz5 hk 31 34 32 33 23 rfl
 have z35 : (T.kind == 35) = true := by rw [hk]; rfl
 obtain ⟨z36, z37, z38, z39, z40, z41, z42, z43⟩ := kz8 hk 36 37 38 39 40 41 42 43 rfl
 obtain ⟨z44, z45, z46, z48, z49, z47, z50, z51⟩ := kz8 hk 44 45 46 48 49 47 50 51 rfl
 obtain ⟨z52, z54⟩ := kz2 hk 52 54 rfl
 have hoK := nodeAt_okN T hN
 have hzT := ba_len hoK hWt
 clear hoK hts
 obtain ⟨hm1, hm2, hrm, hw32, hk1, hk2, ⟨hk64a, hk64b⟩, ⟨ha64a, ha64b⟩, hts, hKs, HK⟩ := hN.hd
 obtain ⟨hb1, c0, c1, c2, c3, c4, c5⟩ := bxn w T A c (some ⟨b, off, none⟩) d
 obtain ⟨n00, n01, n02, n03, n04, n05⟩ := hC0.later hb1
 have hlk0 := blt n00
 unfold ndV
 clear hKs hN hR hT hD hWt hk hrm hw32 hlen3 hks hg0 hN0 hd0 hm0 hone
 go_enter Tryz.func99, Tryz.ntmps99
 go_wp2_with fail
 have hI := HR0.out _ hb1
 unfold ndV at hI
 go_at_call 99
 refine hI.mono ?_
 rintro e w_1 ⟨rfl, hb_1⟩
 clear hI
 have hB_1 := hb1.trans (hb_1.mono hb1.size)
 obtain ⟨c0, c1, c2, c3, c4, c5⟩ := cl6 hb_1 c0 c1 c2 c3 c4 c5
 have hlb := blt c0
 obtain ⟨n00, n01, n02, n03, n04, n05⟩ := hC0.later hB_1
 have hlk0 := blt n00
 go_wp2_with fail
 go_ret
 exact ⟨by rw [HTX.out]; (try simp only [← ba_app, ba_text]); rfl, hB_1⟩
theorem rt35b (hk : T.kind = 35) (hone : ¬ T.kids.length = 1) (hT : Te T) (hD : T.depth ≤ D + 1) (hWt : T.weight ≤ 1000000) (hN : NodeAt w T A c K d) :
  Calls Tryz.prog 99 #[ndV T A c K d] w fun e w' => e = .returned (.string (ba T.txt)) ∧ Below w.heap.size w w' := by
 have el : ((T.kids.length : Int) == 1) = false := bFo
 have HKA := Lh hN.parts.2.2.2.2.2.2.2.2.2
 have HTE := Lh (te_kids hT)
 have HWI := Lh (wKM hD hWt)
 have HWL := Lh (show weights T.kids ≤ 1000000 by have := T.weight_eq; omega)
 have HR := Lh hR
 have hk2' := hN.parts.2.2.2.2.2.1
 have hsb := sep_bound com T.kids (kidsAt_okN hN.parts.2.2.2.2.2.2.2.2.2) lq28
 have hzr : (ba (sepL com (T.kids.map Nd.txt))).size ≤ 2000000000 := by rw [ba_size]; have := T.weight_eq; have := weights_len T.kids; omega
 clear hsb
 have hts : T.txt = [40] ++ sepL com (T.kids.map Nd.txt) ++ [41] := by rw [txt_eq]; simp [txtOf, hk, hone]
 have HTX := Lh hts
 obtain ⟨z31, z34, z32, z33, z23⟩ := kz5 hk 31 34 32 33 23 rfl
 have z35 : (T.kind == 35) = true := by rw [hk]; rfl
 obtain ⟨z36, z37, z38, z39, z40, z41, z42, z43⟩ := kz8 hk 36 37 38 39 40 41 42 43 rfl
 obtain ⟨z44, z45, z46, z48, z49, z47, z50, z51⟩ := kz8 hk 44 45 46 48 49 47 50 51 rfl
 obtain ⟨z52, z54⟩ := kz2 hk 52 54 rfl
 have hoK := nodeAt_okN T hN
 have hzT := ba_len hoK hWt
 clear hoK hts
 obtain ⟨hm1, hm2, hrm, hw32, hk1, hk2, ⟨hk64a, hk64b⟩, ⟨ha64a, ha64b⟩, hts, hKs, HK⟩ := hN.hd
 obtain ⟨hb1, c0, c1, c2, c3, c4, c5⟩ := bxn w T A c K d
 unfold ndV
 clear hKs hN hR hT hD hWt hk hrm hw32 hone
 go_enter Tryz.func99, Tryz.ntmps99
 go_wp2_with fail
 have hI := rRow_ok D HR.out com T.kids T.kids.length _ d _ rfl (HKA.out.later hb1) HTE.out HWI.out HWL.out lq28 hk1 hk2'
 exact lv142
theorem rt40 (hk : T.kind = 40) (hT : Te T) (hD : T.depth ≤ D + 1) (hWt : T.weight ≤ 1000000) (hN : NodeAt w T A c K d) :
  Calls Tryz.prog 99 #[ndV T A c K d] w fun e w' => e = .returned (.string (ba T.txt)) ∧ Below w.heap.size w w' := by
 have hlen3 : T.kids.length = 1 := len_row hk hT.1 (tx := .non) (L := [.expr]) rfl lq28
 obtain ⟨t0, hks⟩ := kids_1 (l := T.kids) hlen3
 have hg0 : T.kids[0]? = some t0 := by rw [hks]; rfl
 obtain ⟨b, off, A0, c0', K0, d0, hKe0, hC0, hN0⟩ := hN.kid hg0
 have hm0 := mog hg0
 have hd0 : t0.depth ≤ D ∧ t0.weight ≤ 1000000 := wKM hD hWt t0 hm0
 have hz0 := ba_len (nodeAt_okN t0 hN0) hd0.2
 rw [Nat.zero_mul, Nat.add_zero] at hC0
 subst hKe0
 have HR0 := Lh (fun W (hb : Below w.heap.size w W) => hR t0 A0 c0' K0 d0 W (te_kids hT t0 hm0) hd0.1 hd0.2 (hN0.later hb))
 have i0 : (0 : Int) < (T.kids.length : Int) := by omega
 have i0' : 0 < T.kids.length := by omega
 have hts : T.txt = [42, 42] ++ t0.txt := by rw [txt_eq, hks]; simp [txtOf, hk, gl]
 have HTX := Lh hts
 obtain ⟨z31, z34, z32, z33, z23, z35, z36, z37⟩ := kz8 hk 31 34 32 33 23 35 36 37 rfl
 obtain ⟨z38, z39⟩ := kz2 hk 38 39 rfl
 have z40 : (T.kind == 40) = true := by rw [hk]; rfl
 obtain ⟨z41, z42, z43, z44, z45, z46, z48, z49⟩ := kz8 hk 41 42 43 44 45 46 48 49 rfl
 obtain ⟨z47, z50, z51, z52, z54⟩ := kz5 hk 47 50 51 52 54 rfl
 exact lv74
end

section
variable (D : Nat) (hR : RTxOk D) (T : Nd) (A : Option Addr) (c : Nat) (K : Option Addr) (d : Nat) (w : World)
include D hR T A c K d w
theorem rt47 (hk : T.kind = 47) (hT : Te T) (hD : T.depth ≤ D + 1) (hWt : T.weight ≤ 1000000) (hN : NodeAt w T A c K d) :
  Calls Tryz.prog 99 #[ndV T A c K d] w fun e w' => e = .returned (.string (ba T.txt)) ∧ Below w.heap.size w w' := by
 have hlen3 : T.kids.length = 1 := len_row hk hT.1 (tx := .non) (L := [.expr]) rfl lq28
 obtain ⟨t0, hks⟩ := kids_1 (l := T.kids) hlen3
 have hg0 : T.kids[0]? = some t0 := by rw [hks]; rfl
 obtain ⟨b, off, A0, c0', K0, d0, hKe0, hC0, hN0⟩ := hN.kid hg0
 have hm0 := mog hg0
 have hd0 : t0.depth ≤ D ∧ t0.weight ≤ 1000000 := wKM hD hWt t0 hm0
 have hz0 := ba_len (nodeAt_okN t0 hN0) hd0.2
 rw [Nat.zero_mul, Nat.add_zero] at hC0
 subst hKe0
 have HR0 := Lh (fun W (hb : Below w.heap.size w W) => hR t0 A0 c0' K0 d0 W (te_kids hT t0 hm0) hd0.1 hd0.2 (hN0.later hb))
 have i0 : (0 : Int) < (T.kids.length : Int) := by omega
 have i0' : 0 < T.kids.length := by omega
 have hts : T.txt = [40, 110, 111, 116, 32] ++ t0.txt ++ [41] := by rw [txt_eq, hks]; simp [txtOf, hk, gl]
 have HTX := Lh hts
 obtain ⟨z31, z34, z32, z33, z23, z35, z36, z37⟩ := kz8 hk 31 34 32 33 23 35 36 37 rfl
 obtain ⟨z38, z39, z40, z41, z42, z43, z44, z45⟩ := kz8 hk 38 39 40 41 42 43 44 45 rfl
 obtain ⟨z46, z48, z49⟩ := kz3 hk 46 48 49 rfl
 have z47 : (T.kind == 47) = true := by rw [hk]; rfl
 obtain ⟨z50, z51, z52, z54⟩ := kz4 hk 50 51 52 54 rfl
 exact lv74
theorem rt50 (hk : T.kind = 50) (hT : Te T) (hD : T.depth ≤ D + 1) (hWt : T.weight ≤ 1000000) (hN : NodeAt w T A c K d) :
  Calls Tryz.prog 99 #[ndV T A c K d] w fun e w' => e = .returned (.string (ba T.txt)) ∧ Below w.heap.size w w' := by
 have hlen3 : T.kids.length = 1 := len_row hk hT.1 (tx := .non) (L := [.expr]) rfl lq28
 obtain ⟨t0, hks⟩ := kids_1 (l := T.kids) hlen3
 have hg0 : T.kids[0]? = some t0 := by rw [hks]; rfl
 obtain ⟨b, off, A0, c0', K0, d0, hKe0, hC0, hN0⟩ := hN.kid hg0
 have hm0 := mog hg0
 have hd0 : t0.depth ≤ D ∧ t0.weight ≤ 1000000 := wKM hD hWt t0 hm0
 have hz0 := ba_len (nodeAt_okN t0 hN0) hd0.2
 rw [Nat.zero_mul, Nat.add_zero] at hC0
 subst hKe0
 have HR0 := Lh (fun W (hb : Below w.heap.size w W) => hR t0 A0 c0' K0 d0 W (te_kids hT t0 hm0) hd0.1 hd0.2 (hN0.later hb))
 have i0 : (0 : Int) < (T.kids.length : Int) := by omega
 have i0' : 0 < T.kids.length := by omega
 have hts : T.txt = [40, 45] ++ t0.txt ++ [41] := by rw [txt_eq, hks]; simp [txtOf, hk, gl]
 have HTX := Lh hts
 obtain ⟨z31, z34, z32, z33, z23, z35, z36, z37⟩ := kz8 hk 31 34 32 33 23 35 36 37 rfl
 obtain ⟨z38, z39, z40, z41, z42, z43, z44, z45⟩ := kz8 hk 38 39 40 41 42 43 44 45 rfl
 obtain ⟨z46, z48, z49, z47⟩ := kz4 hk 46 48 49 47 rfl
 have z50 : (T.kind == 50) = true := by rw [hk]; rfl
 obtain ⟨z51, z52, z54⟩ := kz3 hk 51 52 54 rfl
 exact lv74
theorem rt45 (hk : T.kind = 45) (hT : Te T) (hD : T.depth ≤ D + 1) (hWt : T.weight ≤ 1000000) (hN : NodeAt w T A c K d) :
  Calls Tryz.prog 99 #[ndV T A c K d] w fun e w' => e = .returned (.string (ba T.txt)) ∧ Below w.heap.size w w' := by
 have hlen3 : T.kids.length = 2 := len_row hk hT.1 (tx := .non) (L := [.expr, .expr]) rfl lq28
 have HKA := Lh hN.parts.2.2.2.2.2.2.2.2.2
 have HTE := Lh (te_kids hT)
 have HWI := Lh (wKM hD hWt)
 have HWL := Lh (show weights T.kids ≤ 1000000 by have := T.weight_eq; omega)
 have HR := Lh hR
 have hk2' := hN.parts.2.2.2.2.2.1
 have hsb := sep_bound [32, 111, 114, 32] T.kids (kidsAt_okN hN.parts.2.2.2.2.2.2.2.2.2) lq28
 have hzr : (ba (sepL [32, 111, 114, 32] (T.kids.map Nd.txt))).size ≤ 2000000000 := by rw [ba_size]; have := T.weight_eq; have := weights_len T.kids; omega
 clear hsb
 obtain ⟨t0, t1, hks⟩ := kids_2 hlen3
 have hts : T.txt = [40] ++ sepL [32, 111, 114, 32] (T.kids.map Nd.txt) ++ [41] := by rw [txt_eq, hks]; simp [txtOf, hk, gl, sepL]
 have HTX := Lh hts
 obtain ⟨z31, z34, z32, z33, z23, z35, z36, z37⟩ := kz8 hk 31 34 32 33 23 35 36 37 rfl
 obtain ⟨z38, z39, z40, z41, z42, z43, z44⟩ := kz7 hk 38 39 40 41 42 43 44 rfl
 have z45 : (T.kind == 45) = true := by rw [hk]; rfl
 obtain ⟨z46, z48, z49, z47, z50, z51, z52, z54⟩ := kz8 hk 46 48 49 47 50 51 52 54 rfl
 have hoK := nodeAt_okN T hN
 have hzT := ba_len hoK hWt
 clear hoK hts
 obtain ⟨hm1, hm2, hrm, hw32, hk1, hk2, ⟨hk64a, hk64b⟩, ⟨ha64a, ha64b⟩, hts, hKs, HK⟩ := hN.hd
 obtain ⟨hb1, c0, c1, c2, c3, c4, c5⟩ := bxn w T A c K d
 unfold ndV
 clear hKs hN hR hT hD hWt hk hrm hw32 hks hlen3
 go_enter Tryz.func99, Tryz.ntmps99
 go_wp2_with fail
 have hI := rRow_ok D HR.out [32, 111, 114, 32] T.kids T.kids.length _ d _ rfl (HKA.out.later hb1) HTE.out HWI.out HWL.out lq28 hk1 hk2'
 exact lv142
theorem rt46 (hk : T.kind = 46) (hT : Te T) (hD : T.depth ≤ D + 1) (hWt : T.weight ≤ 1000000) (hN : NodeAt w T A c K d) :
  Calls Tryz.prog 99 #[ndV T A c K d] w fun e w' => e = .returned (.string (ba T.txt)) ∧ Below w.heap.size w w' := by
 have hlen3 : T.kids.length = 2 := len_row hk hT.1 (tx := .non) (L := [.expr, .expr]) rfl lq28
 have HKA := Lh hN.parts.2.2.2.2.2.2.2.2.2
 have HTE := Lh (te_kids hT)
 have HWI := Lh (wKM hD hWt)
 have HWL := Lh (show weights T.kids ≤ 1000000 by have := T.weight_eq; omega)
 have HR := Lh hR
 have hk2' := hN.parts.2.2.2.2.2.1
 have hsb := sep_bound [32, 97, 110, 100, 32] T.kids (kidsAt_okN hN.parts.2.2.2.2.2.2.2.2.2) lq28
 have hzr : (ba (sepL [32, 97, 110, 100, 32] (T.kids.map Nd.txt))).size ≤ 2000000000 := by rw [ba_size]; have := T.weight_eq; have := weights_len T.kids; omega
 clear hsb
 obtain ⟨t0, t1, hks⟩ := kids_2 hlen3
 have hts : T.txt = [40] ++ sepL [32, 97, 110, 100, 32] (T.kids.map Nd.txt) ++ [41] := by rw [txt_eq, hks]; simp [txtOf, hk, gl, sepL]
 have HTX := Lh hts
 obtain ⟨z31, z34, z32, z33, z23, z35, z36, z37⟩ := kz8 hk 31 34 32 33 23 35 36 37 rfl
 obtain ⟨z38, z39, z40, z41, z42, z43, z44, z45⟩ := kz8 hk 38 39 40 41 42 43 44 45 rfl
 have z46 : (T.kind == 46) = true := by rw [hk]; rfl
 obtain ⟨z48, z49, z47, z50, z51, z52, z54⟩ := kz7 hk 48 49 47 50 51 52 54 rfl
 have hoK := nodeAt_okN T hN
 have hzT := ba_len hoK hWt
 clear hoK hts
 obtain ⟨hm1, hm2, hrm, hw32, hk1, hk2, ⟨hk64a, hk64b⟩, ⟨ha64a, ha64b⟩, hts, hKs, HK⟩ := hN.hd
 obtain ⟨hb1, c0, c1, c2, c3, c4, c5⟩ := bxn w T A c K d
 unfold ndV
 clear hKs hN hR hT hD hWt hk hrm hw32 hks hlen3
 go_enter Tryz.func99, Tryz.ntmps99
 go_wp2_with fail
 have hI := rRow_ok D HR.out [32, 97, 110, 100, 32] T.kids T.kids.length _ d _ rfl (HKA.out.later hb1) HTE.out HWI.out HWL.out lq28 hk1 hk2'
 exact lv142
end

theorem rt39 (D : Nat) (hR : RTxOk D) (T : Nd) (A : Option Addr) (c : Nat) (K : Option Addr) (d : Nat) (w : World) (hk : T.kind = 39) (hT : Te T) (hD : T.depth ≤ D + 1) (hWt : T.weight ≤ 1000000) (hN : NodeAt w T A c K d) :
  Calls Tryz.prog 99 #[ndV T A c K d] w fun e w' => e = .returned (.string (ba T.txt)) ∧ Below w.heap.size w w' := by
 have hlen3 : T.kids.length = 2 := len_row hk hT.1 (tx := .non) (L := [.expr, .expr]) rfl lq28
 obtain ⟨t0, t1, hks⟩ := kids_2 (l := T.kids) hlen3
 have hg0 : T.kids[0]? = some t0 := by rw [hks]; rfl
 obtain ⟨b, off, A0, c0', K0, d0, hKe0, hC0, hN0⟩ := hN.kid hg0
 have hm0 := mog hg0
 have hd0 : t0.depth ≤ D ∧ t0.weight ≤ 1000000 := wKM hD hWt t0 hm0
 have hz0 := ba_len (nodeAt_okN t0 hN0) hd0.2
 have hg1 : T.kids[1]? = some t1 := by rw [hks]; rfl
 obtain ⟨b1, off1, A1, c1', K1, d1, hKe1, hC1, hN1⟩ := hN.kid hg1
 have hm1 := mog hg1
 have hd1 : t1.depth ≤ D ∧ t1.weight ≤ 1000000 := wKM hD hWt t1 hm1
 have hz1 := ba_len (nodeAt_okN t1 hN1) hd1.2
 rw [Nat.zero_mul, Nat.add_zero] at hC0
 subst hKe0
 injection hKe1 with e1
 injection e1 with e1 e2
 subst e1 e2
 rw [show 1 * 6 = 6 from rfl] at hC1
 have HR0 := Lh (fun W (hb : Below w.heap.size w W) => hR t0 A0 c0' K0 d0 W (te_kids hT t0 hm0) hd0.1 hd0.2 (hN0.later hb))
 have i0 : (0 : Int) < (T.kids.length : Int) := by omega
 have i0' : 0 < T.kids.length := by omega
 have HR1 := Lh (fun W (hb : Below w.heap.size w W) => hR t1 A1 c1' K1 d1 W (te_kids hT t1 hm1) hd1.1 hd1.2 (hN1.later hb))
 have i1 : (1 : Int) < (T.kids.length : Int) := by omega
 have i1' : 1 < T.kids.length := by omega
 have hts : T.txt = t0.txt ++ [58, 32] ++ t1.txt := by rw [txt_eq, hks]; simp [txtOf, hk, gl]
 have HTX := Lh hts
 obtain ⟨z31, z34, z32, z33, z23, z35, z36, z37⟩ := kz8 hk 31 34 32 33 23 35 36 37 rfl
 have z38 : (T.kind == 38) = false := by rw [hk]; rfl
 have z39 : (T.kind == 39) = true := by rw [hk]; rfl
 obtain ⟨z40, z41, z42, z43, z44, z45, z46, z48⟩ := kz8 hk 40 41 42 43 44 45 46 48 rfl
 obtain ⟨z49, z47, z50, z51, z52, z54⟩ := kz6 hk 49 47 50 51 52 54 rfl
 have hoK := nodeAt_okN T hN
 have hzT := ba_len hoK hWt
 clear hoK hts
 obtain ⟨hm1, hm2, hrm, hw32, hk1, hk2, ⟨hk64a, hk64b⟩, ⟨ha64a, ha64b⟩, hts, hKs, HK⟩ := hN.hd
 obtain ⟨hb1, c0, c1, c2, c3, c4, c5⟩ := bxn w T A c (some ⟨b, off, none⟩) d
 obtain ⟨n00, n01, n02, n03, n04, n05⟩ := hC0.later hb1
 have hlk0 := blt n00
 obtain ⟨n10, n11, n12, n13, n14, n15⟩ := hC1.later hb1
 have hlk1 := blt n10
 have hlb1 := blt c0
 have hqs0 : ({ data := #[58, 32] } : ByteArray).size = 2 := rfl
 have had0 := fun (W : World) => run_string_add_sum (P := Tryz.prog) (w := W) (ba t0.txt) (({ data := #[58, 32] } : ByteArray)) lq18
 have had1 := fun (W : World) => run_string_add_sum (P := Tryz.prog) (w := W) (ba t0.txt ++ ({ data := #[58, 32] } : ByteArray)) (ba t1.txt) lq18
 clear hqs0
 exact lv17
theorem rt54 (D : Nat) (hR : RTxOk D) (T : Nd) (A : Option Addr) (c : Nat) (K : Option Addr) (d : Nat) (w : World) (hk : T.kind = 54) (hT : Te T) (hD : T.depth ≤ D + 1) (hWt : T.weight ≤ 1000000) (hN : NodeAt w T A c K d) :
  Calls Tryz.prog 99 #[ndV T A c K d] w fun e w' => e = .returned (.string (ba T.txt)) ∧ Below w.heap.size w w' := by
 have hlen3 : T.kids.length = 2 := len_row hk hT.1 (tx := .non) (L := [.expr, .expr]) rfl lq28
 obtain ⟨t0, t1, hks⟩ := kids_2 (l := T.kids) hlen3
 have hg0 : T.kids[0]? = some t0 := by rw [hks]; rfl
 obtain ⟨b, off, A0, c0', K0, d0, hKe0, hC0, hN0⟩ := hN.kid hg0
 have hm0 := mog hg0
 have hd0 : t0.depth ≤ D ∧ t0.weight ≤ 1000000 := wKM hD hWt t0 hm0
 have hz0 := ba_len (nodeAt_okN t0 hN0) hd0.2
 have hg1 : T.kids[1]? = some t1 := by rw [hks]; rfl
 obtain ⟨b1, off1, A1, c1', K1, d1, hKe1, hC1, hN1⟩ := hN.kid hg1
 have hm1 := mog hg1
 have hd1 : t1.depth ≤ D ∧ t1.weight ≤ 1000000 := wKM hD hWt t1 hm1
 have hz1 := ba_len (nodeAt_okN t1 hN1) hd1.2
 rw [Nat.zero_mul, Nat.add_zero] at hC0
 subst hKe0
 injection hKe1 with e1
 injection e1 with e1 e2
 subst e1 e2
 rw [show 1 * 6 = 6 from rfl] at hC1
 have HR0 := Lh (fun W (hb : Below w.heap.size w W) => hR t0 A0 c0' K0 d0 W (te_kids hT t0 hm0) hd0.1 hd0.2 (hN0.later hb))
 have i0 : (0 : Int) < (T.kids.length : Int) := by omega
 have i0' : 0 < T.kids.length := by omega
 have HR1 := Lh (fun W (hb : Below w.heap.size w W) => hR t1 A1 c1' K1 d1 W (te_kids hT t1 hm1) hd1.1 hd1.2 (hN1.later hb))
 have i1 : (1 : Int) < (T.kids.length : Int) := by omega
 have i1' : 1 < T.kids.length := by omega
 have hts : T.txt = t0.txt ++ [91] ++ t1.txt ++ [93] := by rw [txt_eq, hks]; simp [txtOf, hk, gl]
 have HTX := Lh hts
 obtain ⟨z31, z34, z32, z33, z23, z35, z36, z37⟩ := kz8 hk 31 34 32 33 23 35 36 37 rfl
 obtain ⟨z38, z39, z40, z41, z42, z43, z44, z45⟩ := kz8 hk 38 39 40 41 42 43 44 45 rfl
 obtain ⟨z46, z48, z49, z47, z50, z51, z52⟩ := kz7 hk 46 48 49 47 50 51 52 rfl
 have z54 : (T.kind == 54) = true := by rw [hk]; rfl
 have hoK := nodeAt_okN T hN
 have hzT := ba_len hoK hWt
 clear hoK hts
 obtain ⟨hm1, hm2, hrm, hw32, hk1, hk2, ⟨hk64a, hk64b⟩, ⟨ha64a, ha64b⟩, hts, hKs, HK⟩ := hN.hd
 obtain ⟨hb1, c0, c1, c2, c3, c4, c5⟩ := bxn w T A c (some ⟨b, off, none⟩) d
 obtain ⟨n00, n01, n02, n03, n04, n05⟩ := hC0.later hb1
 have hlk0 := blt n00
 obtain ⟨n10, n11, n12, n13, n14, n15⟩ := hC1.later hb1
 have hlk1 := blt n10
 have hlb1 := blt c0
 have hqs0 : ({ data := #[91] } : ByteArray).size = 1 := rfl
 have hqs1 : ({ data := #[93] } : ByteArray).size = 1 := rfl
 have had0 := fun (W : World) => run_string_add_sum (P := Tryz.prog) (w := W) (ba t0.txt) (({ data := #[91] } : ByteArray)) lq18
 have had1 := fun (W : World) => run_string_add_sum (P := Tryz.prog) (w := W) (ba t0.txt ++ ({ data := #[91] } : ByteArray)) (ba t1.txt) lq18
 have had2 := fun (W : World) => run_string_add_sum (P := Tryz.prog) (w := W) (ba t0.txt ++ ({ data := #[91] } : ByteArray) ++ ba t1.txt) (({ data := #[93] } : ByteArray)) lq18
 clear hqs0 hqs1
 exact lv17
end
end Go.Proofs.YtjefhdlncikhmaaGreatDoor
