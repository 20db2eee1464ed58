/- Joined by a program: Rt4a, Rt4c, Rt4, Rt5a. -/
import Derived.Test.YtjefhdlncikhmaaGreatDoorPT39
import Derived.Test.YtjefhdlncikhmaaGreatDoorPT40
namespace Go.Proofs.YtjefhdlncikhmaaGreatDoor
set_option linter.unusedVariables false
set_option linter.unusedSimpArgs false
set_option maxRecDepth 1000000
set_option maxHeartbeats 16000000
section
open Go.RowKit
open List (length_append length_cons length_nil length_singleton)
theorem flat_if_bound (L : List (List UInt8)) : (L.flatMap (fun x => [32, 105, 102, 32] ++ x)).length = total L + 4 * L.length := flat_total [32, 105, 102, 32] L
theorem total_map_le (l : List Nd) (h : ∀ t ∈ l, okN t) : total (l.map Nd.txt) ≤ 64 * weights l := total_any (f := Nd.txt) l (fun t ht => by have := txt_len t (h t ht); omega)
theorem rBehind_ok (D : Nat) (hR : RTxOk D) (l : List Nd) (n : Nat) (K : Option Addr) (d : Nat) (w1 : World) (hn : l.length = n) (h3 : 3 ≤ n) (hl : KidsAt w1 l K 0) (hte : ∀ t ∈ l, Te t) (hWi : WithinM D l) (hwl : weights l ≤ 1000000) (hnd : n ≤ d) (hd : d ≤ maxLen) :
  Calls Tryz.prog 160 #[.slice K n d] w1 fun e w' => e = .returned (.string (ba (behindL (l.map Nd.txt)))) ∧ Below w1.heap.size w1 w' := by
 unfold maxLen at hd
 obtain ⟨t0, t1, t2, hg0, hg1, hg2⟩ := kids3' (l := l) lq29
 obtain ⟨b, off, A0, c0', K0, d0, hKe0, hC0, hN0⟩ := hl.kid hg0
 obtain ⟨b1, off1, A1, c1', K1, d1, hKe1, hC1, hN1⟩ := hl.kid hg1
 obtain ⟨b2, off2, A2, c2', K2, d2, hKe2, hC2, hN2⟩ := hl.kid hg2
 rw [Nat.zero_add, Nat.zero_mul, Nat.add_zero] at hC0
 rw [Nat.zero_add, Nat.one_mul] at hC1
 rw [Nat.zero_add, show 2 * 6 = 12 from rfl] at hC2
 subst hKe0
 injection hKe1 with e1
 injection e1 with e1 e2
 subst e1 e2
 injection hKe2 with e1
 injection e1 with e1 e2
 subst e1 e2
 have hm1 := mog hg1
 have hm2 := mog hg2
 have hok := kidsAt_okN hl
 have hz1 := ba_len (hok t1 hm1) (hWi t1 hm1).2
 have hz2 := ba_len (hok t2 hm2) (hWi t2 hm2).2
 have hs1 := fun W (hb : Below w1.heap.size w1 W) => hR t1 A1 c1' K1 d1 W (hte t1 hm1) (hWi t1 hm1).1 (hWi t1 hm1).2 (hN1.later hb)
 have hs2 := fun W (hb : Below w1.heap.size w1 W) => hR t2 A2 c2' K2 d2 W (hte t2 hm2) (hWi t2 hm2).1 (hWi t2 hm2).2 (hN2.later hb)
 unfold ndV at hs1 hs2
 have HS1 := Lh hs1
 have HS2 := Lh hs2
 obtain ⟨n00, n01, n02, n03, n04, n05⟩ := hC0
 obtain ⟨n10, n11, n12, n13, n14, n15⟩ := hC1
 obtain ⟨n20, n21, n22, n23, n24, n25⟩ := hC2
 have hlk0 := blt n00
 obtain ⟨pre, hpre⟩ : ∃ pre, [32, 102, 111, 114, 32] ++ t1.txt ++ [32, 105, 110, 32] ++ t2.txt = pre := ⟨_, rfl⟩
 have HBP := Lh (show ({ data := #[32, 102, 111, 114, 32] } : ByteArray) ++ ba t1.txt ++ { data := #[32, 105, 110, 32] } ++ ba t2.txt = ba pre by rw [← hpre, ← ba_app, ← ba_app, ← ba_app]; rfl)
 have HLL := Lh (show behindL (l.map Nd.txt) = pre ++ ((l.map Nd.txt).drop 3).flatMap (fun x => [32, 105, 102, 32] ++ x) by rw [behindL, gl_map hg1, gl_map hg2, hpre])
 have hpl : pre.length ≤ 200000000 := by rw [ba_size] at hz1 hz2; rw [← hpre]; simp only [length_append, length_cons, length_nil]; omega
 have HFB := Lh (show (((l.map Nd.txt).drop 3).flatMap (fun x => [32, 105, 102, 32] ++ x)).length ≤ 100000000 by
  rw [← List.map_drop, flat_if_bound, List.length_map]; have h1 := total_map_le (l.drop 3) (fun t ht => hok t (List.mem_of_mem_drop ht)); have h2 := weights_drop l 3; have h3 := weights_len (l.drop 3)
  omega)
 have i0 : (0 : Int) < (n : Int) := by omega
 have i1 : (1 : Int) < (n : Int) := by omega
 have i1' : 1 < n := by omega
 have i2 : (2 : Int) < (n : Int) := by omega
 have i2' : 2 < n := by omega
 have HK := Lh hl
 have HN := Lh hn
 have HT := Lh hte
 have HW := Lh hWi
 have HR := Lh hR
 have HOK := Lh hok
 have hqs0 : ({ data := #[32, 102, 111, 114, 32] } : ByteArray).size = 5 := rfl
 have hqs1 : ({ data := #[32, 105, 110, 32] } : ByteArray).size = 4 := rfl
 have had0 := fun (W : World) => run_string_add_sum (P := Tryz.prog) (w := W) (({ data := #[32, 102, 111, 114, 32] } : ByteArray)) (ba t1.txt) lq18
 have had1 := fun (W : World) => run_string_add_sum (P := Tryz.prog) (w := W) (({ data := #[32, 102, 111, 114, 32] } : ByteArray) ++ ba t1.txt) (({ data := #[32, 105, 110, 32] } : ByteArray)) lq18
 have had2 := fun (W : World) => run_string_add_sum (P := Tryz.prog) (w := W) (({ data := #[32, 102, 111, 114, 32] } : ByteArray) ++ ba t1.txt ++ ({ data := #[32, 105, 110, 32] } : ByteArray)) (ba t2.txt) lq18
 clear hqs0 hqs1
 clear hl hn hte hWi hR hok hs1 hs2 hN0 hN1 hN2 hg0 hg1 hg2 hm1 hm2 hwl hpre h3
 go_enter Tryz.func160, Tryz.ntmps160
 go_wp2_with fail
 have HPK := fun (W : World) (h : Below w1.heap.size w1 W) => show _ ∧ _ ∧ _ ∧ _ ∧ _ ∧ _ ∧ _ ∧ _ ∧ _ ∧ _ ∧ _ ∧ _ ∧ _ ∧ _ ∧ _ ∧ _ ∧ _ ∧ _ ∧ _ from ⟨cLt h n00, cLt h n01, cLt h n02, cLt h n03, cLt h n04, cLt h n05, cLt h n10, cLt h n11, cLt h n12, cLt h n13, cLt h n14, cLt h n15, cLt h n20, cLt h n21, cLt h n22, cLt h n23, cLt h n24, cLt h n25, Nat.lt_of_lt_of_le hlk0 h.size⟩
 go_region_held3 (fun W => W.cell? ⟨b, off, none⟩ = some (.int .i64 t0.kind) ∧ W.cell? ⟨b, off + 1, none⟩ = some (.int .i64 t0.pos) ∧ W.cell? ⟨b, off + 2, none⟩ = some (.string t0.text) ∧ W.cell? ⟨b, off + 3, none⟩ = some (.bool t0.neg) ∧ W.cell? ⟨b, off + 4, none⟩ = some (.slice A0 t0.mag.length c0') ∧ W.cell? ⟨b, off + 5, none⟩ = some (.slice K0 t0.kids.length d0) ∧ W.cell? ⟨b, off + 6, none⟩ = some (.int .i64 t1.kind) ∧ W.cell? ⟨b, off + 6 + 1, none⟩ = some (.int .i64 t1.pos) ∧ W.cell? ⟨b, off + 6 + 2, none⟩ = some (.string t1.text) ∧ W.cell? ⟨b, off + 6 + 3, none⟩ = some (.bool t1.neg) ∧ W.cell? ⟨b, off + 6 + 4, none⟩ = some (.slice A1 t1.mag.length c1') ∧ W.cell? ⟨b, off + 6 + 5, none⟩ = some (.slice K1 t1.kids.length d1) ∧ W.cell? ⟨b, off + 12, none⟩ = some (.int .i64 t2.kind) ∧ W.cell? ⟨b, off + 12 + 1, none⟩ = some (.int .i64 t2.pos) ∧ W.cell? ⟨b, off + 12 + 2, none⟩ = some (.string t2.text) ∧ W.cell? ⟨b, off + 12 + 3, none⟩ = some (.bool t2.neg) ∧ W.cell? ⟨b, off + 12 + 4, none⟩ = some (.slice A2 t2.mag.length c2') ∧ W.cell? ⟨b, off + 12 + 5, none⟩ = some (.slice K2 t2.kids.length d2) ∧ b < W.heap.size) (first | (refine HPK _ ?_; (repeat' (first | with_reducible exact H1 | with_reducible exact H0 | with_reducible exact Below.refl _ _ | (with_reducible refine below_drew ?_))))) (first | (go_at_call 99; (with_reducible refine (HS1.out _ ?hbel).mono ?_); (case hbel => (repeat' (first  | with_reducible exact Below.refl _ _ | (with_reducible refine below_drew ?_)))); rintro e w_0 ⟨rfl, hq_0⟩; have H0 := below_then (w1 := w1) hq_0 lq14) | (go_at_call 99; (with_reducible refine (HS2.out _ ?hbel).mono ?_); (case hbel => (repeat' (first | with_reducible exact H0 | with_reducible exact Below.refl _ _ | (with_reducible refine below_drew ?_)))); rintro e w_1 ⟨rfl, hq_1⟩; have H1 := below_then (w1 := w1) hq_1 lq12) )
 all_goals
  rw [HBP.out]; have HBH := Lh H1; go_wp2_with fail
  go_loopw [3, 4] (fun sv iv wr => ∃ k : Nat, iv = .int .i64 ((k : Int) + 3) ∧ sv = .string (ba (pre ++ (((l.map Nd.txt).drop 3).take k).flatMap (fun x => [32, 105, 102, 32] ++ x))) ∧ k + 3 ≤ n ∧ Below w1.heap.size w1 wr) (fun _ iv _ => n - (intOf iv).toNat)
  case atStart => exact ⟨0, rfl, by simp, by omega, HBH.out⟩
  case round =>
   obtain ⟨k, rfl, rfl, hk, hbr⟩ := hrel
   by_cases hkl : k + 3 < n
   ·have o1 : decide ((k : Int) + 3 < (n : Int)) = true := dTo; have o2 : decide (k + 3 < n) = true := dTr hkl; obtain ⟨t, ht⟩ : ∃ t, l[k + 3]? = some t := ⟨_, List.getElem?_eq_getElem (by rw [HN.out]; exact hkl)⟩; obtain ⟨b', off', A', c', K', d', hKe, hC, hNt⟩ := HK.out.kid ht; rw [Nat.zero_add] at hC; injection hKe with hKe
    injection hKe with q1 q2
    subst q1 q2; obtain ⟨m0, m1, m2, m3, m4, m5⟩ := hC.later hbr; have hbm := blt m0; have hm := mog ht; have hI := HR.out t A' c' K' d' wr (HT.out t hm) (HW.out t hm).1 (HW.out t hm).2 (hNt.later hbr); unfold ndV at hI; have hmt : ((l.map Nd.txt).drop 3)[k]? = some t.txt := by rw [List.getElem?_drop, show 3 + k = k + 3 by omega, List.getElem?_map, ht]; rfl
    have hst := flat_if_take hmt; have hle := flat_if_le ((l.map Nd.txt).drop 3) k; have hz3 : (ba (pre ++ (((l.map Nd.txt).drop 3).take k).flatMap (fun x => [32, 105, 102, 32] ++ x))).size ≤ 300000000 := by rw [ba_size, length_append]; have := HFB.out; omega
    have hz4 : (ba t.txt).size ≤ 64000000 := ba_len (HOK.out t hm) (HW.out t hm).2
    have HV := Lh (show ba (pre ++ (((l.map Nd.txt).drop 3).take k).flatMap (fun x => [32, 105, 102, 32] ++ x)) ++ { data := #[32, 105, 102, 32] } ++ ba t.txt = ba (pre ++ (((l.map Nd.txt).drop 3).take (k + 1)).flatMap (fun x => [32, 105, 102, 32] ++ x)) by
     rw [hst, ← List.append_assoc, ← ba_app _ ([32, 105, 102, 32] ++ t.txt), ← ba_app [32, 105, 102, 32], ByteArray.append_assoc]; rfl)
    have j1 : (k : Int) + 3 < (n : Int) := by omega
    have j2 : (0 : Int) ≤ (k : Int) + 3 := by omega
    obtain ⟨Z, hZ⟩ : ∃ Z, ba (pre ++ (((l.map Nd.txt).drop 3).take k).flatMap (fun x => [32, 105, 102, 32] ++ x)) = Z := ⟨_, rfl⟩; rw [hZ] at hz3 HV ⊢; clear hC hNt ht hm hmt hst hle hZ; go_wp2_with fail
    go_at_call 99
    refine hI.mono ?_
    rintro e w3 ⟨rfl, hb3⟩; clear hI; go_wp2_with fail
    go_roundw
    case rel => exact ⟨k + 1, by simp; omega, by rw [← HV.out], by omega, hbr.trans (hb3.mono hbr.size)⟩
    case measure => simp [intOf]; omega
   ·have o1 : decide ((k : Int) + 3 < (n : Int)) = false := dFo; have o2 : decide (k + 3 < n) = false := dFa hkl; have hv : ((l.map Nd.txt).drop 3).take k = (l.map Nd.txt).drop 3 := List.take_of_length_le (by rw [List.length_drop, List.length_map]; have := HN.out; omega); have HV := Lh (show ba (pre ++ (((l.map Nd.txt).drop 3).take k).flatMap (fun x => [32, 105, 102, 32] ++ x)) = ba (behindL (l.map Nd.txt)) by rw [hv, HLL.out]); obtain ⟨Z, hZ⟩ : ∃ Z, ba (pre ++ (((l.map Nd.txt).drop 3).take k).flatMap (fun x => [32, 105, 102, 32] ++ x)) = Z := ⟨_, rfl⟩; rw [hZ] at HV ⊢; clear hv hZ
    go_wp2_with fail; go_ret; exact ⟨by rw [← HV.out]; rfl, hbr⟩
section
variable (D : Nat) (hR : RTxOk D) (T : Nd) (A : Option Addr) (c : Nat) (K : Option Addr) (d : Nat) (w : World)
include D hR T A c K d w
theorem rt41 (hk : T.kind = 41) (hT : Te T) (hD : T.depth ≤ D + 1) (hWt : T.weight ≤ 1000000) (hN : NodeAt w T A c K d) :
  Calls Tryz.prog 99 #[ndV T A c K d] w fun e w' => e = .returned (.string (ba T.txt)) ∧ Below w.heap.size w w' := by
 have hcx := cmp_ex ⟨hT.1, by omega⟩ lq29
 have hlen3 := hcx.1
 obtain ⟨t0, hg0⟩ : ∃ t0, T.kids[0]? = some t0 := ⟨_, gEo⟩
 obtain ⟨b, off, A0, c0', K0, d0, hKe0, hC0, hN0⟩ := hN.kid hg0
 have hm0 := mog hg0
 have hd0 := wKM hD hWt t0 hm0
 have hz0 := ba_len (nodeAt_okN t0 hN0) hd0.2
 rw [Nat.zero_mul, Nat.add_zero] at hC0
 subst hKe0
 have HR0 := Lh (fun W (hb : Below w.heap.size w W) => hR t0 A0 c0' K0 d0 W (te_kids hT t0 hm0) hd0.1 hd0.2 (hN0.later hb))
 have i0 : (0 : Int) < (T.kids.length : Int) := by omega
 have i0' : 0 < T.kids.length := by omega
 have HKA := Lh hN.parts.2.2.2.2.2.2.2.2.2
 have HTE := Lh (te_kids hT)
 have HWI := Lh (wKM hD hWt)
 have HWL := Lh (show weights T.kids ≤ 1000000 by have := T.weight_eq; omega)
 have HR := Lh hR
 have hk2' := hN.parts.2.2.2.2.2.1
 have hzb : (ba (behindL (T.kids.map Nd.txt))).size ≤ 64000000 := by
  exact lv178
 have HL3 := Lh hlen3
 have hts : T.txt = [91] ++ t0.txt ++ behindL (T.kids.map Nd.txt) ++ [93] := by rw [txt_eq]; simp [txtOf, hk, gl, List.getD, hg0]
 have HTX := Lh hts
 obtain ⟨z31, z34, z32, z33, z23, z35, z36, z37⟩ := kz8 hk 31 34 32 33 23 35 36 37 rfl
 obtain ⟨z38, z39, z40⟩ := kz3 hk 38 39 40 rfl
 have z41 : (T.kind == 41) = true := by rw [hk]; rfl
 obtain ⟨z42, z43, z44, z45, z46, z48, z49, z47⟩ := kz8 hk 42 43 44 45 46 48 49 47 rfl
 obtain ⟨z50, z51, z52, z54⟩ := kz4 hk 50 51 52 54 rfl
 exact lv39
theorem rt42 (hk : T.kind = 42) (hT : Te T) (hD : T.depth ≤ D + 1) (hWt : T.weight ≤ 1000000) (hN : NodeAt w T A c K d) :
  Calls Tryz.prog 99 #[ndV T A c K d] w fun e w' => e = .returned (.string (ba T.txt)) ∧ Below w.heap.size w w' := by
 have hcx := cmp_ex ⟨hT.1, by omega⟩ lq29
 have hlen3 := hcx.1
 obtain ⟨t0, hg0⟩ : ∃ t0, T.kids[0]? = some t0 := ⟨_, gEo⟩
 obtain ⟨b, off, A0, c0', K0, d0, hKe0, hC0, hN0⟩ := hN.kid hg0
 have hm0 := mog hg0
 have hd0 := wKM hD hWt t0 hm0
 have hz0 := ba_len (nodeAt_okN t0 hN0) hd0.2
 rw [Nat.zero_mul, Nat.add_zero] at hC0
 subst hKe0
 have HR0 := Lh (fun W (hb : Below w.heap.size w W) => hR t0 A0 c0' K0 d0 W (te_kids hT t0 hm0) hd0.1 hd0.2 (hN0.later hb))
 have i0 : (0 : Int) < (T.kids.length : Int) := by omega
 have i0' : 0 < T.kids.length := by omega
 have HKA := Lh hN.parts.2.2.2.2.2.2.2.2.2
 have HTE := Lh (te_kids hT)
 have HWI := Lh (wKM hD hWt)
 have HWL := Lh (show weights T.kids ≤ 1000000 by have := T.weight_eq; omega)
 have HR := Lh hR
 have hk2' := hN.parts.2.2.2.2.2.1
 have hzb : (ba (behindL (T.kids.map Nd.txt))).size ≤ 64000000 := by
  exact lv178
 have HL3 := Lh hlen3
 have hts : T.txt = [123] ++ t0.txt ++ behindL (T.kids.map Nd.txt) ++ [125] := by rw [txt_eq]; simp [txtOf, hk, gl, List.getD, hg0]
 have HTX := Lh hts
 obtain ⟨z31, z34, z32, z33, z23, z35, z36, z37⟩ := kz8 hk 31 34 32 33 23 35 36 37 rfl
 obtain ⟨z38, z39, z40, z41⟩ := kz4 hk 38 39 40 41 rfl
 have z42 : (T.kind == 42) = true := by rw [hk]; rfl
 obtain ⟨z43, z44, z45, z46, z48, z49, z47, z50⟩ := kz8 hk 43 44 45 46 48 49 47 50 rfl
 obtain ⟨z51, z52, z54⟩ := kz3 hk 51 52 54 rfl
 exact lv39
theorem rt43 (hk : T.kind = 43) (hT : Te T) (hD : T.depth ≤ D + 1) (hWt : T.weight ≤ 1000000) (hN : NodeAt w T A c K d) :
  Calls Tryz.prog 99 #[ndV T A c K d] w fun e w' => e = .returned (.string (ba T.txt)) ∧ Below w.heap.size w w' := by
 have hcx := cmp_ex ⟨hT.1, by omega⟩ lq29
 have hlen3 := hcx.1
 obtain ⟨t0, hg0⟩ : ∃ t0, T.kids[0]? = some t0 := ⟨_, gEo⟩
 obtain ⟨b, off, A0, c0', K0, d0, hKe0, hC0, hN0⟩ := hN.kid hg0
 have hm0 := mog hg0
 have hd0 := wKM hD hWt t0 hm0
 have hz0 := ba_len (nodeAt_okN t0 hN0) hd0.2
 rw [Nat.zero_mul, Nat.add_zero] at hC0
 subst hKe0
 have HR0 := Lh (fun W (hb : Below w.heap.size w W) => hR t0 A0 c0' K0 d0 W (te_kids hT t0 hm0) hd0.1 hd0.2 (hN0.later hb))
 have i0 : (0 : Int) < (T.kids.length : Int) := by omega
 have i0' : 0 < T.kids.length := by omega
 have HKA := Lh hN.parts.2.2.2.2.2.2.2.2.2
 have HTE := Lh (te_kids hT)
 have HWI := Lh (wKM hD hWt)
 have HWL := Lh (show weights T.kids ≤ 1000000 by have := T.weight_eq; omega)
 have HR := Lh hR
 have hk2' := hN.parts.2.2.2.2.2.1
 have hzb : (ba (behindL (T.kids.map Nd.txt))).size ≤ 64000000 := by
  exact lv178
 have HL3 := Lh hlen3
 have hts : T.txt = [123] ++ t0.txt ++ behindL (T.kids.map Nd.txt) ++ [125] := by rw [txt_eq]; simp [txtOf, hk, gl, List.getD, hg0]
 have HTX := Lh hts
 obtain ⟨z31, z34, z32, z33, z23, z35, z36, z37⟩ := kz8 hk 31 34 32 33 23 35 36 37 rfl
 obtain ⟨z38, z39, z40, z41, z42⟩ := kz5 hk 38 39 40 41 42 rfl
 have z43 : (T.kind == 43) = true := by rw [hk]; rfl
 obtain ⟨z44, z45, z46, z48, z49, z47, z50, z51⟩ := kz8 hk 44 45 46 48 49 47 50 51 rfl
 obtain ⟨z52, z54⟩ := kz2 hk 52 54 rfl
 exact lv39
end

theorem words_small {T : Nd} (hT : Te T) (hk : T.kind = 48 ∨ T.kind = 49) : T.text.size ≤ 900 := by
 obtain ⟨x, fm, hf, -, hx⟩ := te_form hT
 have hw : x = .words compsL ∨ x = .words signsL := by
  rcases hk with hk | hk <;> rw [hk] at hf
  ·have h1 : formOf 48 = some (.words compsL, .row [.expr, .expr]) := rfl; rw [h1] at hf; injection hf with hf
   injection hf with hf
   exact .inl hf.symm
  ·have h1 : formOf 49 = some (.words signsL, .row [.expr, .expr]) := rfl; rw [h1] at hf; injection hf with hf
   injection hf with hf
   exact .inr hf.symm
 have hs : ∀ l ∈ compsL ++ signsL, l.length ≤ 900 := by decide
 have hl : T.text.data.toList ∈ compsL ++ signsL := by
  rcases hw with rfl | rfl
  ·exact List.mem_append_left _ (List.contains_iff_mem.1 hx)
  ·exact List.mem_append_right _ (List.contains_iff_mem.1 hx)
 have h := hs _ hl
 rw [Array.length_toList] at h
 exact h
theorem rText_step (D : Nat) (hR : RTxOk D) : RTxOk (D + 1) := by
 intro T A c K d w hT hD hWt hN
 by_cases h31 : T.kind = 31
 ·exact rt31 D hR T A c K d w h31 hT hD hWt hN
 by_cases h34 : T.kind = 34
 ·exact rt34 D hR T A c K d w h34 hT hD hWt hN
 by_cases h32 : T.kind = 32
 ·exact rt32 D hR T A c K d w h32 hT hD hWt hN
 by_cases h33 : T.kind = 33
 ·exact rt33 D hR T A c K d w h33 hT hD hWt hN
 by_cases h23 : T.kind = 23
 ·exact rt23 D hR T A c K d w h23 hT hD hWt hN
 by_cases h36 : T.kind = 36
 ·exact rt36 D hR T A c K d w h36 hT hD hWt hN
 by_cases h37 : T.kind = 37
 ·exact rt37 D hR T A c K d w h37 hT hD hWt hN
 by_cases h38 : T.kind = 38
 ·exact rt38 D hR T A c K d w h38 hT hD hWt hN
 by_cases h35 : T.kind = 35
 ·by_cases ho : T.kids.length = 1
  ·exact rt35a D hR T A c K d w h35 ho hT hD hWt hN
  ·exact rt35b D hR T A c K d w h35 ho hT hD hWt hN
 by_cases h40 : T.kind = 40
 ·exact rt40 D hR T A c K d w h40 hT hD hWt hN
 by_cases h47 : T.kind = 47
 ·exact rt47 D hR T A c K d w h47 hT hD hWt hN
 by_cases h50 : T.kind = 50
 ·exact rt50 D hR T A c K d w h50 hT hD hWt hN
 by_cases h45 : T.kind = 45
 ·exact rt45 D hR T A c K d w h45 hT hD hWt hN
 by_cases h46 : T.kind = 46
 ·exact rt46 D hR T A c K d w h46 hT hD hWt hN
 by_cases h39 : T.kind = 39
 ·exact rt39 D hR T A c K d w h39 hT hD hWt hN
 by_cases h54 : T.kind = 54
 ·exact rt54 D hR T A c K d w h54 hT hD hWt hN
 by_cases h44 : T.kind = 44
 ·exact rt44 D hR T A c K d w h44 hT hD hWt hN
 by_cases h52 : T.kind = 52
 ·exact rt52 D hR T A c K d w h52 hT hD hWt hN
 by_cases h53 : T.kind = 53
 ·obtain ⟨t0, hks⟩ := kids_1 (len_row h53 hT.1 (tx := .name) (L := [.expr]) rfl lq28)
  by_cases hq : t0.kind = 32
  ·exact rt53a D hR T A c K d w h53 (fun t ht => by rw [hks] at ht; simp at ht; rw [← ht]; exact hq) hT hD hWt hN
  ·exact rt53b D hR T A c K d w h53 (fun t ht => by rw [hks] at ht; simp at ht; rw [← ht]; exact hq) hT hD hWt hN
 by_cases h51 : T.kind = 51
 ·by_cases ho : d = 1
  ·exact rt51a D hR T A c K d w h51 ho hT hD hWt hN
  ·exact rt51b D hR T A c K d w h51 ho hT hD hWt hN
 by_cases h48 : T.kind = 48
 ·exact rt48 D hR T A c K d w h48 (words_small hT (.inl h48)) hT hD hWt hN
 by_cases h49 : T.kind = 49
 ·exact rt49 D hR T A c K d w h49 (words_small hT (.inr h49)) hT hD hWt hN
 by_cases h41 : T.kind = 41
 ·exact rt41 D hR T A c K d w h41 hT hD hWt hN
 by_cases h42 : T.kind = 42
 ·exact rt42 D hR T A c K d w h42 hT hD hWt hN
 by_cases h43 : T.kind = 43
 ·exact rt43 D hR T A c K d w h43 hT hD hWt hN
 exfalso
 obtain ⟨x, fm, hf, -, -⟩ := te_form hT
 have hm := form_at hf
 have hk := hT.2
 simp only [forms, List.mem_cons, List.not_mem_nil, or_false, Prod.mk.injEq] at hm
 omega
theorem rText_ok : ∀ D, RTxOk D := by
 intro D
 induction D with
 | zero => intro T A c K d w _ hD; rw [T.depth_eq] at hD; omega
 | succ D ih => exact rText_step D ih
theorem par_kid {p : Nd} (hk : p.kind = 19) (hT : p.right = true) : p.kids = [] ∨ ∃ q, p.kids = [q] ∧ Mb q := by
 rw [param_eq hk] at hT
 simp only [Bool.and_eq_true, Bool.or_eq_true, beq_iff_eq] at hT
 rcases hT.2 with h | h
 ·exact .inl (List.length_eq_zero_iff.1 h)
 ·match hks : p.kids with
  | [] => exact .inl rfl
  | [q] =>
   exact lv156
  | a :: b :: r => rw [hks] at h; simp [rowB] at h
theorem mbl_len {T : Nd} (h : okN T) (hw : T.weight ≤ 1000000) : (ba (maybeL T)).size ≤ 64000001 := by
 have h1 := txt_len T h
 rw [ba_size, maybeL]
 split
 ·exact Nat.zero_le _
 ·rw [length_append, length_singleton]; omega
theorem rMaybe_ok (D : Nat) (T : Nd) (A : Option Addr) (c : Nat) (K : Option Addr) (d : Nat) (w : World) (hT : Mb T) (hD : T.depth ≤ D) (hWt : T.weight ≤ 1000000) (hN : NodeAt w T A c K d) :
  Calls Tryz.prog 100 #[ndV T A c K d] w fun e w' => e = .returned (.string (ba (maybeL T))) ∧ Below w.heap.size w w' := by
 have hzT := ba_len (nodeAt_okN T hN) hWt
 by_cases hk : T.kind = 0
 ·have z0 : (T.kind == 0) = true := by rw [hk]; rfl
  have HTX := Lh (show maybeL T = [] by rw [maybeL, if_pos hk]); obtain ⟨hm1, hm2, hrm, hw32, hk1, hk2, ⟨hk64a, hk64b⟩, ⟨ha64a, ha64b⟩, hts, hKs, HK⟩ := hN.hd; obtain ⟨hb1, c0, c1, c2, c3, c4, c5⟩ := bxn w T A c K d; unfold ndV; clear hKs hN hT hD hWt hrm hw32 hk; go_enter Tryz.func100, Tryz.ntmps100; go_wp2_with fail; go_ret; exact ⟨by rw [HTX.out]; rfl, hb1⟩
 ·have z0 : (T.kind == 0) = false := beq_eq_false_iff_ne.2 hk; have HTX := Lh (show maybeL T = [32] ++ T.txt by rw [maybeL, if_neg hk]); have HR0 := Lh (fun W (hb : Below w.heap.size w W) => rText_ok D T A c K d W (hT.resolve_left hk).te hD hWt (hN.later hb)); obtain ⟨hm1, hm2, hrm, hw32, hk1, hk2, ⟨hk64a, hk64b⟩, ⟨ha64a, ha64b⟩, hts, hKs, HK⟩ := hN.hd; obtain ⟨hb1, c0, c1, c2, c3, c4, c5⟩ := bxn w T A c K d; unfold ndV; clear hKs hN hT hD hWt hrm hw32 hk; go_enter Tryz.func100, Tryz.ntmps100; go_wp2_with fail; have hI := HR0.out _ hb1; unfold ndV at hI
  go_at_call 99
  refine hI.mono ?_
  rintro e w_1 ⟨rfl, hb_1⟩; clear hI; have hB_1 := hb1.trans (hb_1.mono hb1.size); obtain ⟨c0, c1, c2, c3, c4, c5⟩ := cl6 hb_1 c0 c1 c2 c3 c4 c5; have hlb := blt c0; go_wp2_with fail; go_ret; exact ⟨by rw [HTX.out, ← ba_app]; rfl, hB_1⟩
def RLOk (D : Nat) : Prop := ∀ dep, dep + D ≤ 1000000 → ∀ (T : Nd) (A : Option Addr) (c : Nat) (K : Option Addr) (d : Nat) (W : World), St T → T.depth ≤ D → T.weight ≤ 1000000 → (T.lin dep).length ≤ 1000000000000 → NodeAt W T A c K d →
 Calls Tryz.prog 50 #[ndV T A c K d, .int .i64 ((dep : Nat) : Int)] W fun e w' => e = .returned (.string (ba (T.lin dep))) ∧ Below W.heap.size W w'
theorem rWithin_ok (D dep : Nat) (hdp : dep + D ≤ 1000000) (hL : RLOk D) (T : Nd) (A : Option Addr) (c : Nat) (K : Option Addr) (d : Nat) (w : World) (hT : (Sh.of 2).ev Nd.right T = true) (hD : T.depth ≤ D + 1) (hWt : T.weight ≤ 1000000) (hlen : (T.lin dep).length ≤ 1000000000000) (hN : NodeAt w T A c K d) :
  Calls Tryz.prog 36 #[ndV T A c K d, .int .i64 ((dep : Nat) : Int)] w fun e w' => e = .returned (.string (ba (T.lin dep))) ∧ Below w.heap.size w w' := by
 have hk : T.kind = 2 := by
  have h := (Bool.and_eq_true _ _ ▸ (show (T.kind == 2 && T.right) = true from hT)).1
  simpa using h
 have hts := blk_lin hk dep
 rw [hts] at hlen
 have HTX := Lh hts
 have HLN := Lh hlen
 have HL := Lh (hL dep hdp)
 have HB := Lh (blk_kids hT)
 have HW := Lh (wKM hD hWt)
 clear hts hlen hL hk
 obtain ⟨hm1, hm2, hrm, hw32, hk1, hk2, ⟨hk64a, hk64b⟩, ⟨ha64a, ha64b⟩, hts, hKs, HK⟩ := hN.hd
 obtain ⟨hb1, c0, c1, c2, c3, c4, c5⟩ := bxn w T A c K d
 unfold ndV
 clear hKs hN hT hD hWt hrm hw32 
 go_enter Tryz.func36, Tryz.ntmps36
 go_wp2_with fail
 generalize w.alloc (bx T.kind T A c K d) = w1 at *
 go_loopw [5, 6] (fun sv iv wr => ∃ k : Nat, iv = .int .i64 k ∧ sv = .string (ba (((T.kids.take k).map Nd.lin).flatMap (fun y => y dep))) ∧ k ≤ T.kids.length ∧ Below w1.heap.size w1 wr) (fun _ iv _ => T.kids.length - (intOf iv).toNat)
 case atStart => exact ⟨0, rfl, by simp [ba], Nat.zero_le _, Below.refl _ _⟩
 case round =>
  obtain ⟨k, rfl, rfl, hk, hbr⟩ := hrel; have d5 := cLt hbr c5; have hwl : w.heap.size < wr.heap.size := Nat.lt_of_lt_of_le (blt c5) hbr.size; have hbw := hb1.trans (hbr.mono hb1.size); have hle0 := flat_lin_le T.kids k dep; have hz1 : (ba (((T.kids.take k).map Nd.lin).flatMap (fun y => y dep))).size ≤ 1000000000000 := by rw [ba_size]; have := HLN.out; omega
  by_cases hkl : k < T.kids.length
  ·have o1 : decide ((k : Int) < (T.kids.length : Int)) = true := dTo; have o2 : decide (k < T.kids.length) = true := dTr hkl; obtain ⟨t, ht⟩ : ∃ t, T.kids[k]? = some t := ⟨_, List.getElem?_eq_getElem hkl⟩; obtain ⟨b, off, A', c', K', d', hK, hC, hNt⟩ := HK.out k t ht; subst hK; have htm := mog ht; obtain ⟨n0, n1, n2, n3, n4, n5⟩ := hC.later hbw; have hst := flat_lin_take ht dep; have hle := flat_lin_le T.kids (k + 1) dep; have hz2 : (t.lin dep).length ≤ 1000000000000 := by rw [hst, length_append] at hle; have := HLN.out; omega
   have hz3 : (ba (t.lin dep)).size ≤ 1000000000000 := by rw [ba_size]; exact hz2
   have hI := HL.out t A' c' K' d' wr (HB.out t htm) (HW.out t htm).1 (HW.out t htm).2 hz2 (hNt.later hbw); unfold ndV at hI; have HV := Lh (show ba (((T.kids.take k).map Nd.lin).flatMap (fun y => y dep)) ++ ba (t.lin dep) = ba (((T.kids.take (k + 1)).map Nd.lin).flatMap (fun y => y dep)) by rw [hst, ba_app]); obtain ⟨Z, hZ⟩ : ∃ Z, ba (((T.kids.take k).map Nd.lin).flatMap (fun y => y dep)) = Z := ⟨_, rfl⟩; rw [hZ] at hz1 HV ⊢; clear hC hNt ht htm hst hle hle0 hz2 hZ; go_wp2_with fail
   go_at_call 50
   refine hI.mono ?_
   rintro e w3 ⟨rfl, hb3⟩; clear hI; go_wp2_with fail
   go_roundw
   case rel => exact ⟨k + 1, by go_num, by rw [← HV.out], by omega, hbr.trans (hb3.mono hbr.size)⟩
   case measure => simp [intOf]; omega
  ·have o1 : decide ((k : Int) < (T.kids.length : Int)) = false := dFo; have o2 : decide (k < T.kids.length) = false := dFa hkl; have HV := Lh (show ba (((T.kids.take k).map Nd.lin).flatMap (fun y => y dep)) = ba (T.lin dep) by rw [HTX.out, List.take_of_length_le lq29]); obtain ⟨Z, hZ⟩ : ∃ Z, ba (((T.kids.take k).map Nd.lin).flatMap (fun y => y dep)) = Z := ⟨_, rfl⟩; rw [hZ] at hz1 HV ⊢; clear hle0 hZ; go_wp2_with fail; go_ret; exact ⟨by rw [← HV.out]; rfl, hbw⟩
end
end Go.Proofs.YtjefhdlncikhmaaGreatDoor
