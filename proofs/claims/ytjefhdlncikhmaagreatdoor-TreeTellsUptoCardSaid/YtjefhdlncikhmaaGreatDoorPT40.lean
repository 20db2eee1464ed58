/- Joined by a program: Rt3c, Rt3d, Rt3e, Rt4b. -/
import Derived.Test.YtjefhdlncikhmaaGreatDoorPT38
namespace Go.Proofs.YtjefhdlncikhmaaGreatDoor
set_option linter.unusedVariables false
set_option linter.unusedSimpArgs false
set_option maxRecDepth 1000000
set_option maxHeartbeats 16000000
section
open Go.RowKit
open List (length_append length_cons length_nil length_singleton)
theorem rt44 (D : Nat) (hR : RTxOk D) (T : Nd) (A : Option Addr) (c : Nat) (K : Option Addr) (d : Nat) (w : World) (hk : T.kind = 44) (hT : Te T) (hD : T.depth ≤ D + 1) (hWt : T.weight ≤ 1000000) (hN : NodeAt w T A c K d) :
  Calls Tryz.prog 99 #[ndV T A c K d] w fun e w' => e = .returned (.string (ba T.txt)) ∧ Below w.heap.size w w' := by
 have hlen3 : T.kids.length = 3 := len_row hk hT.1 (tx := .non) (L := [.expr, .expr, .expr]) rfl lq28
 obtain ⟨t0, t1, t2, hks⟩ := kids_3 (l := T.kids) hlen3
 have hg0 : T.kids[0]? = some t0 := by rw [hks]; rfl
 obtain ⟨b, off, A0, c0', K0, d0, hKe0, hC0, hN0⟩ := hN.kid hg0
 have hm0 := mog hg0
 have hd0 : t0.depth ≤ D ∧ t0.weight ≤ 1000000 := wKM hD hWt t0 hm0
 have hz0 := ba_len (nodeAt_okN t0 hN0) hd0.2
 have hg1 : T.kids[1]? = some t1 := by rw [hks]; rfl
 obtain ⟨b1, off1, A1, c1', K1, d1, hKe1, hC1, hN1⟩ := hN.kid hg1
 have hm1 := mog hg1
 have hd1 : t1.depth ≤ D ∧ t1.weight ≤ 1000000 := wKM hD hWt t1 hm1
 have hz1 := ba_len (nodeAt_okN t1 hN1) hd1.2
 have hg2 : T.kids[2]? = some t2 := by rw [hks]; rfl
 obtain ⟨b2, off2, A2, c2', K2, d2, hKe2, hC2, hN2⟩ := hN.kid hg2
 have hm2 := mog hg2
 have hd2 : t2.depth ≤ D ∧ t2.weight ≤ 1000000 := wKM hD hWt t2 hm2
 have hz2 := ba_len (nodeAt_okN t2 hN2) hd2.2
 rw [Nat.zero_mul, Nat.add_zero] at hC0
 subst hKe0
 injection hKe1 with e1
 injection e1 with e1 e2
 subst e1 e2
 rw [show 1 * 6 = 6 from rfl] at hC1
 injection hKe2 with e1
 injection e1 with e1 e2
 subst e1 e2
 rw [show 2 * 6 = 12 from rfl] at hC2
 have HR0 := Lh (fun W (hb : Below w.heap.size w W) => hR t0 A0 c0' K0 d0 W (te_kids hT t0 hm0) hd0.1 hd0.2 (hN0.later hb))
 have i0 : (0 : Int) < (T.kids.length : Int) := by omega
 have i0' : 0 < T.kids.length := by omega
 have HR1 := Lh (fun W (hb : Below w.heap.size w W) => hR t1 A1 c1' K1 d1 W (te_kids hT t1 hm1) hd1.1 hd1.2 (hN1.later hb))
 have i1 : (1 : Int) < (T.kids.length : Int) := by omega
 have i1' : 1 < T.kids.length := by omega
 have HR2 := Lh (fun W (hb : Below w.heap.size w W) => hR t2 A2 c2' K2 d2 W (te_kids hT t2 hm2) hd2.1 hd2.2 (hN2.later hb))
 have i2 : (2 : Int) < (T.kids.length : Int) := by omega
 have i2' : 2 < T.kids.length := by omega
 have hts : T.txt = [40] ++ t0.txt ++ [32, 105, 102, 32] ++ t1.txt ++ [32, 101, 108, 115, 101, 32] ++ t2.txt ++ [41] := by rw [txt_eq, hks]; simp [txtOf, hk, gl]
 have HTX := Lh hts
 obtain ⟨z31, z34, z32, z33, z23, z35, z36, z37⟩ := kz8 hk 31 34 32 33 23 35 36 37 rfl
 obtain ⟨z38, z39, z40, z41, z42, z43⟩ := kz6 hk 38 39 40 41 42 43 rfl
 have z44 : (T.kind == 44) = true := by rw [hk]; rfl
 obtain ⟨z45, z46, z48, z49, z47, z50, z51, z52⟩ := kz8 hk 45 46 48 49 47 50 51 52 rfl
 have z54 : (T.kind == 54) = false := by rw [hk]; rfl
 have hoK := nodeAt_okN T hN
 have hzT := ba_len hoK hWt
 clear hoK hts
 obtain ⟨hm1, hm2, hrm, hw32, hk1, hk2, ⟨hk64a, hk64b⟩, ⟨ha64a, ha64b⟩, hts, hKs, HK⟩ := hN.hd
 obtain ⟨hb1, c0, c1, c2, c3, c4, c5⟩ := bxn w T A c (some ⟨b, off, none⟩) d
 obtain ⟨n00, n01, n02, n03, n04, n05⟩ := hC0.later hb1
 have hlk0 := blt n00
 obtain ⟨n10, n11, n12, n13, n14, n15⟩ := hC1.later hb1
 have hlk1 := blt n10
 obtain ⟨n20, n21, n22, n23, n24, n25⟩ := hC2.later hb1
 have hlk2 := blt n20
 have hlb1 := blt c0
 have hqs0 : ({ data := #[40] } : ByteArray).size = 1 := rfl
 have hqs1 : ({ data := #[32, 105, 102, 32] } : ByteArray).size = 4 := rfl
 have hqs2 : ({ data := #[32, 101, 108, 115, 101, 32] } : ByteArray).size = 6 := rfl
 have hqs3 : ({ data := #[41] } : ByteArray).size = 1 := rfl
 have had0 := fun (W : World) => run_string_add_sum (P := Tryz.prog) (w := W) (({ data := #[40] } : ByteArray)) (ba t0.txt) lq18
 have had1 := fun (W : World) => run_string_add_sum (P := Tryz.prog) (w := W) (({ data := #[40] } : ByteArray) ++ ba t0.txt) (({ data := #[32, 105, 102, 32] } : ByteArray)) lq18
 have had2 := fun (W : World) => run_string_add_sum (P := Tryz.prog) (w := W) (({ data := #[40] } : ByteArray) ++ ba t0.txt ++ ({ data := #[32, 105, 102, 32] } : ByteArray)) (ba t1.txt) lq18
 have had3 := fun (W : World) => run_string_add_sum (P := Tryz.prog) (w := W) (({ data := #[40] } : ByteArray) ++ ba t0.txt ++ ({ data := #[32, 105, 102, 32] } : ByteArray) ++ ba t1.txt) (({ data := #[32, 101, 108, 115, 101, 32] } : ByteArray)) lq18
 have had4 := fun (W : World) => run_string_add_sum (P := Tryz.prog) (w := W) (({ data := #[40] } : ByteArray) ++ ba t0.txt ++ ({ data := #[32, 105, 102, 32] } : ByteArray) ++ ba t1.txt ++ ({ data := #[32, 101, 108, 115, 101, 32] } : ByteArray)) (ba t2.txt) lq18
 have had5 := fun (W : World) => run_string_add_sum (P := Tryz.prog) (w := W) (({ data := #[40] } : ByteArray) ++ ba t0.txt ++ ({ data := #[32, 105, 102, 32] } : ByteArray) ++ ba t1.txt ++ ({ data := #[32, 101, 108, 115, 101, 32] } : ByteArray) ++ ba t2.txt) (({ data := #[41] } : ByteArray)) lq18
 clear hqs0 hqs1 hqs2 hqs3
 have hs0 := fun W (hb : Below (w.alloc (bx T.kind T A c (some ⟨b, off, none⟩) d)).heap.size (w.alloc (bx T.kind T A c (some ⟨b, off, none⟩) d)) W) => HR0.out W (hb1.trans (hb.mono hb1.size))
 unfold ndV at hs0
 have HS0 := Lh hs0
 clear hs0
 have hs1 := fun W (hb : Below (w.alloc (bx T.kind T A c (some ⟨b, off, none⟩) d)).heap.size (w.alloc (bx T.kind T A c (some ⟨b, off, none⟩) d)) W) => HR1.out W (hb1.trans (hb.mono hb1.size))
 unfold ndV at hs1
 have HS1 := Lh hs1
 clear hs1
 have hs2 := fun W (hb : Below (w.alloc (bx T.kind T A c (some ⟨b, off, none⟩) d)).heap.size (w.alloc (bx T.kind T A c (some ⟨b, off, none⟩) d)) W) => HR2.out W (hb1.trans (hb.mono hb1.size))
 unfold ndV at hs2
 have HS2 := Lh hs2
 clear hs2
 unfold ndV
 clear hKs hN hR hT hD hWt hk hrm hw32 hlen3 hks hg0 hN0 hd0 hm0 hg1 hN1 hd1 hm1 hg2 hN2 hd2 hm2
 go_enter Tryz.func99, Tryz.ntmps99
 go_wp2_with fail
 generalize w.alloc (bx T.kind T A c (some ⟨b, off, none⟩) d) = w1 at *
 have HPK := fun (W : World) (h : Below w1.heap.size w1 W) => show _ ∧ _ ∧ _ ∧ _ ∧ _ ∧ _ ∧ _ ∧ _ ∧ _ ∧ _ ∧ _ ∧ _ ∧ _ ∧ _ ∧ _ ∧ _ ∧ _ ∧ _ ∧ _ from ⟨cLt h n00, cLt h n01, cLt h n02, cLt h n03, cLt h n04, cLt h n05, cLt h n10, cLt h n11, cLt h n12, cLt h n13, cLt h n14, cLt h n15, cLt h n20, cLt h n21, cLt h n22, cLt h n23, cLt h n24, cLt h n25, Nat.lt_of_lt_of_le hlk0 h.size⟩
 go_region_held3 (fun W => W.cell? ⟨b, off, none⟩ = some (.int .i64 t0.kind) ∧ W.cell? ⟨b, off + 1, none⟩ = some (.int .i64 t0.pos) ∧ W.cell? ⟨b, off + 2, none⟩ = some (.string t0.text) ∧ W.cell? ⟨b, off + 3, none⟩ = some (.bool t0.neg) ∧ W.cell? ⟨b, off + 4, none⟩ = some (.slice A0 t0.mag.length c0') ∧ W.cell? ⟨b, off + 5, none⟩ = some (.slice K0 t0.kids.length d0) ∧ W.cell? ⟨b, off + 6, none⟩ = some (.int .i64 t1.kind) ∧ W.cell? ⟨b, off + 6 + 1, none⟩ = some (.int .i64 t1.pos) ∧ W.cell? ⟨b, off + 6 + 2, none⟩ = some (.string t1.text) ∧ W.cell? ⟨b, off + 6 + 3, none⟩ = some (.bool t1.neg) ∧ W.cell? ⟨b, off + 6 + 4, none⟩ = some (.slice A1 t1.mag.length c1') ∧ W.cell? ⟨b, off + 6 + 5, none⟩ = some (.slice K1 t1.kids.length d1) ∧ W.cell? ⟨b, off + 12, none⟩ = some (.int .i64 t2.kind) ∧ W.cell? ⟨b, off + 12 + 1, none⟩ = some (.int .i64 t2.pos) ∧ W.cell? ⟨b, off + 12 + 2, none⟩ = some (.string t2.text) ∧ W.cell? ⟨b, off + 12 + 3, none⟩ = some (.bool t2.neg) ∧ W.cell? ⟨b, off + 12 + 4, none⟩ = some (.slice A2 t2.mag.length c2') ∧ W.cell? ⟨b, off + 12 + 5, none⟩ = some (.slice K2 t2.kids.length d2) ∧ b < W.heap.size) (first | (refine HPK _ ?_; (repeat' (first | with_reducible exact H2 | with_reducible exact H1 | with_reducible exact H0 | with_reducible exact Below.refl _ _ | (with_reducible refine below_drew ?_))))) (first | (go_at_call 99; (with_reducible refine (HS0.out _ ?hbel).mono ?_); (case hbel => (repeat' (first  | with_reducible exact Below.refl _ _ | (with_reducible refine below_drew ?_)))); rintro e w_0 ⟨rfl, hq_0⟩; have H0 := below_then (w1 := w1) hq_0 lq14) | (go_at_call 99; (with_reducible refine (HS1.out _ ?hbel).mono ?_); (case hbel => (repeat' (first | with_reducible exact H0 | with_reducible exact Below.refl _ _ | (with_reducible refine below_drew ?_)))); rintro e w_1 ⟨rfl, hq_1⟩; have H1 := below_then (w1 := w1) hq_1 lq12) | (go_at_call 99; (with_reducible refine (HS2.out _ ?hbel).mono ?_); (case hbel => (repeat' (first | with_reducible exact H1 | with_reducible exact H0 | with_reducible exact Below.refl _ _ | (with_reducible refine below_drew ?_)))); rintro e w_2 ⟨rfl, hq_2⟩; have H2 := below_then (w1 := w1) hq_2 (by (repeat' (first | with_reducible exact H1 | with_reducible exact H0 | with_reducible exact Below.refl _ _ | (with_reducible refine below_drew ?_))))) )
 all_goals
  go_wp2; go_ret; exact ⟨by rw [HTX.out]; (try simp only [← ba_app, ba_text]); rfl, hb1.trans (H2.mono hb1.size)⟩
section
variable (D : Nat) (hR : RTxOk D) (T : Nd) (A : Option Addr) (c : Nat) (K : Option Addr) (d : Nat) (w : World)
include D hR T A c K d w
theorem rt52 (hk : T.kind = 52) (hT : Te T) (hD : T.depth ≤ D + 1) (hWt : T.weight ≤ 1000000) (hN : NodeAt w T A c K d) :
  Calls Tryz.prog 99 #[ndV T A c K d] w fun e w' => e = .returned (.string (ba T.txt)) ∧ Below w.heap.size w w' := by
 have hlen3 : T.kids.length = 1 := len_row hk hT.1 (tx := .name) (L := [.expr]) rfl lq28
 obtain ⟨t0, hks⟩ := kids_1 (l := T.kids) hlen3
 have hg0 : T.kids[0]? = some t0 := by rw [hks]; rfl
 obtain ⟨b, off, A0, c0', K0, d0, hKe0, hC0, hN0⟩ := hN.kid hg0
 have hm0 := mog hg0
 have hd0 : t0.depth ≤ D ∧ t0.weight ≤ 1000000 := wKM hD hWt t0 hm0
 have hz0 := ba_len (nodeAt_okN t0 hN0) hd0.2
 rw [Nat.zero_mul, Nat.add_zero] at hC0
 subst hKe0
 have HR0 := Lh (fun W (hb : Below w.heap.size w W) => hR t0 A0 c0' K0 d0 W (te_kids hT t0 hm0) hd0.1 hd0.2 (hN0.later hb))
 have i0 : (0 : Int) < (T.kids.length : Int) := by omega
 have i0' : 0 < T.kids.length := by omega
 have hzx : T.text.size ≤ 1000000 := by have := T.weight_eq; omega
 have hts : T.txt = tx T ++ [61] ++ t0.txt := by rw [txt_eq, hks]; simp [txtOf, hk, gl]
 have HTX := Lh hts
 obtain ⟨z31, z34, z32, z33, z23, z35, z36, z37⟩ := kz8 hk 31 34 32 33 23 35 36 37 rfl
 obtain ⟨z38, z39, z40, z41, z42, z43, z44, z45⟩ := kz8 hk 38 39 40 41 42 43 44 45 rfl
 obtain ⟨z46, z48, z49, z47, z50, z51⟩ := kz6 hk 46 48 49 47 50 51 rfl
 have z52 : (T.kind == 52) = true := by rw [hk]; rfl
 have z54 : (T.kind == 54) = false := by rw [hk]; rfl
 have hoK := nodeAt_okN T hN
 have hzT := ba_len hoK hWt
 clear hoK hts
 obtain ⟨hm1, hm2, hrm, hw32, hk1, hk2, ⟨hk64a, hk64b⟩, ⟨ha64a, ha64b⟩, hts, hKs, HK⟩ := hN.hd
 obtain ⟨hb1, c0, c1, c2, c3, c4, c5⟩ := bxn w T A c (some ⟨b, off, none⟩) d
 obtain ⟨n00, n01, n02, n03, n04, n05⟩ := hC0.later hb1
 have hlk0 := blt n00
 have hlb1 := blt c0
 have hqs0 : ({ data := #[61] } : ByteArray).size = 1 := rfl
 have had0 := fun (W : World) => run_string_add_sum (P := Tryz.prog) (w := W) (T.text) (({ data := #[61] } : ByteArray)) lq18
 have had1 := fun (W : World) => run_string_add_sum (P := Tryz.prog) (w := W) (T.text ++ ({ data := #[61] } : ByteArray)) (ba t0.txt) lq18
 clear hqs0
 have hs0 := fun W (hb : Below (w.alloc (bx T.kind T A c (some ⟨b, off, none⟩) d)).heap.size (w.alloc (bx T.kind T A c (some ⟨b, off, none⟩) d)) W) => HR0.out W (hb1.trans (hb.mono hb1.size))
 unfold ndV at hs0
 have HS0 := Lh hs0
 clear hs0
 unfold ndV
 clear hKs hN hR hT hD hWt hk hrm hw32 hlen3 hks hg0 hN0 hd0 hm0
 go_enter Tryz.func99, Tryz.ntmps99
 go_wp2_with fail
 generalize w.alloc (bx T.kind T A c (some ⟨b, off, none⟩) d) = w1 at *
 have HPK := fun (W : World) (h : Below w1.heap.size w1 W) => show _ ∧ _ ∧ _ ∧ _ ∧ _ ∧ _ ∧ _ ∧ _ ∧ _ from ⟨cLt h n00, cLt h n01, cLt h n02, cLt h n03, cLt h n04, cLt h n05, cLt h c2, Nat.lt_of_lt_of_le hlk0 h.size, Nat.lt_of_lt_of_le hlb1 h.size⟩
 go_region_held3 (fun W => W.cell? ⟨b, off, none⟩ = some (.int .i64 t0.kind) ∧ W.cell? ⟨b, off + 1, none⟩ = some (.int .i64 t0.pos) ∧ W.cell? ⟨b, off + 2, none⟩ = some (.string t0.text) ∧ W.cell? ⟨b, off + 3, none⟩ = some (.bool t0.neg) ∧ W.cell? ⟨b, off + 4, none⟩ = some (.slice A0 t0.mag.length c0') ∧ W.cell? ⟨b, off + 5, none⟩ = some (.slice K0 t0.kids.length d0) ∧ W.cell? ⟨w.heap.size, 2, none⟩ = some (.string T.text) ∧ b < W.heap.size ∧ w.heap.size < W.heap.size) (first | (refine HPK _ ?_; (repeat' (first | with_reducible exact H0 | with_reducible exact Below.refl _ _ | (with_reducible refine below_drew ?_))))) (first | (go_at_call 99; (with_reducible refine (HS0.out _ ?hbel).mono ?_); (case hbel => (repeat' (first  | with_reducible exact Below.refl _ _ | (with_reducible refine below_drew ?_)))); rintro e w_0 ⟨rfl, hq_0⟩; have H0 := below_then (w1 := w1) hq_0 lq14) )
 all_goals
  go_wp2; go_ret; exact ⟨by rw [HTX.out]; (try simp only [← ba_app, ba_text]); rfl, hb1.trans (H0.mono hb1.size)⟩
theorem rt53a (hk : T.kind = 53) (hq0 : ∀ t, T.kids[0]? = some t → t.kind = 32) (hT : Te T) (hD : T.depth ≤ D + 1) (hWt : T.weight ≤ 1000000) (hN : NodeAt w T A c K d) :
  Calls Tryz.prog 99 #[ndV T A c K d] w fun e w' => e = .returned (.string (ba T.txt)) ∧ Below w.heap.size w w' := by
 have hlen3 : T.kids.length = 1 := len_row hk hT.1 (tx := .name) (L := [.expr]) rfl lq28
 obtain ⟨t0, hks⟩ := kids_1 (l := T.kids) hlen3
 have hg0 : T.kids[0]? = some t0 := by rw [hks]; rfl
 obtain ⟨b, off, A0, c0', K0, d0, hKe0, hC0, hN0⟩ := hN.kid hg0
 have hm0 := mog hg0
 have hd0 : t0.depth ≤ D ∧ t0.weight ≤ 1000000 := wKM hD hWt t0 hm0
 have hz0 := ba_len (nodeAt_okN t0 hN0) hd0.2
 rw [Nat.zero_mul, Nat.add_zero] at hC0
 subst hKe0
 have HR0 := Lh (fun W (hb : Below w.heap.size w W) => hR t0 A0 c0' K0 d0 W (te_kids hT t0 hm0) hd0.1 hd0.2 (hN0.later hb))
 have i0 : (0 : Int) < (T.kids.length : Int) := by omega
 have i0' : 0 < T.kids.length := by omega
 have hq := hq0 t0 hg0
 have eq : (t0.kind == 32) = true := by simpa using hq
 have hzx : T.text.size ≤ 1000000 := by have := T.weight_eq; omega
 have hts : T.txt = [40] ++ t0.txt ++ [41, 46] ++ tx T := by rw [txt_eq, txtOf, hks]; simp [hk, gl, hq]
 have HTX := Lh hts
 obtain ⟨z31, z34, z32, z33, z23, z35, z36, z37⟩ := kz8 hk 31 34 32 33 23 35 36 37 rfl
 obtain ⟨z38, z39, z40, z41, z42, z43, z44, z45⟩ := kz8 hk 38 39 40 41 42 43 44 45 rfl
 obtain ⟨z46, z48, z49, z47, z50, z51, z52, z54⟩ := kz8 hk 46 48 49 47 50 51 52 54 rfl
 have hoK := nodeAt_okN T hN
 have hzT := ba_len hoK hWt
 clear hoK hts
 obtain ⟨hm1, hm2, hrm, hw32, hk1, hk2, ⟨hk64a, hk64b⟩, ⟨ha64a, ha64b⟩, hts, hKs, HK⟩ := hN.hd
 obtain ⟨hb1, c0, c1, c2, c3, c4, c5⟩ := bxn w T A c (some ⟨b, off, none⟩) d
 obtain ⟨n00, n01, n02, n03, n04, n05⟩ := hC0.later hb1
 have hlk0 := blt n00
 have hlb1 := blt c0
 have hqs0 : ({ data := #[40] } : ByteArray).size = 1 := rfl
 have hqs1 : ({ data := #[41, 46] } : ByteArray).size = 2 := rfl
 have had0 := fun (W : World) => run_string_add_sum (P := Tryz.prog) (w := W) (({ data := #[40] } : ByteArray)) (ba t0.txt) lq18
 have had1 := fun (W : World) => run_string_add_sum (P := Tryz.prog) (w := W) (({ data := #[40] } : ByteArray) ++ ba t0.txt) (({ data := #[41, 46] } : ByteArray)) lq18
 have had2 := fun (W : World) => run_string_add_sum (P := Tryz.prog) (w := W) (({ data := #[40] } : ByteArray) ++ ba t0.txt ++ ({ data := #[41, 46] } : ByteArray)) (T.text) lq18
 clear hqs0 hqs1
 exact lv29
theorem rt53b (hk : T.kind = 53) (hq0 : ∀ t, T.kids[0]? = some t → ¬ t.kind = 32) (hT : Te T) (hD : T.depth ≤ D + 1) (hWt : T.weight ≤ 1000000) (hN : NodeAt w T A c K d) :
  Calls Tryz.prog 99 #[ndV T A c K d] w fun e w' => e = .returned (.string (ba T.txt)) ∧ Below w.heap.size w w' := by
 have hlen3 : T.kids.length = 1 := len_row hk hT.1 (tx := .name) (L := [.expr]) rfl lq28
 obtain ⟨t0, hks⟩ := kids_1 (l := T.kids) hlen3
 have hg0 : T.kids[0]? = some t0 := by rw [hks]; rfl
 obtain ⟨b, off, A0, c0', K0, d0, hKe0, hC0, hN0⟩ := hN.kid hg0
 have hm0 := mog hg0
 have hd0 : t0.depth ≤ D ∧ t0.weight ≤ 1000000 := wKM hD hWt t0 hm0
 have hz0 := ba_len (nodeAt_okN t0 hN0) hd0.2
 rw [Nat.zero_mul, Nat.add_zero] at hC0
 subst hKe0
 have HR0 := Lh (fun W (hb : Below w.heap.size w W) => hR t0 A0 c0' K0 d0 W (te_kids hT t0 hm0) hd0.1 hd0.2 (hN0.later hb))
 have i0 : (0 : Int) < (T.kids.length : Int) := by omega
 have i0' : 0 < T.kids.length := by omega
 have hq := hq0 t0 hg0
 have eq : (t0.kind == 32) = false := by simpa using hq
 have hzx : T.text.size ≤ 1000000 := by have := T.weight_eq; omega
 have hts : T.txt = t0.txt ++ [46] ++ tx T := by rw [txt_eq, txtOf, hks]; simp [hk, gl, hq]
 have HTX := Lh hts
 obtain ⟨z31, z34, z32, z33, z23, z35, z36, z37⟩ := kz8 hk 31 34 32 33 23 35 36 37 rfl
 obtain ⟨z38, z39, z40, z41, z42, z43, z44, z45⟩ := kz8 hk 38 39 40 41 42 43 44 45 rfl
 obtain ⟨z46, z48, z49, z47, z50, z51, z52, z54⟩ := kz8 hk 46 48 49 47 50 51 52 54 rfl
 have hoK := nodeAt_okN T hN
 have hzT := ba_len hoK hWt
 clear hoK hts
 obtain ⟨hm1, hm2, hrm, hw32, hk1, hk2, ⟨hk64a, hk64b⟩, ⟨ha64a, ha64b⟩, hts, hKs, HK⟩ := hN.hd
 obtain ⟨hb1, c0, c1, c2, c3, c4, c5⟩ := bxn w T A c (some ⟨b, off, none⟩) d
 obtain ⟨n00, n01, n02, n03, n04, n05⟩ := hC0.later hb1
 have hlk0 := blt n00
 have hlb1 := blt c0
 have hqs0 : ({ data := #[46] } : ByteArray).size = 1 := rfl
 have had0 := fun (W : World) => run_string_add_sum (P := Tryz.prog) (w := W) (ba t0.txt) (({ data := #[46] } : ByteArray)) lq18
 have had1 := fun (W : World) => run_string_add_sum (P := Tryz.prog) (w := W) (ba t0.txt ++ ({ data := #[46] } : ByteArray)) (T.text) lq18
 clear hqs0
 exact lv29
end

section
variable (D : Nat) (hR : RTxOk D) (T : Nd) (A : Option Addr) (c : Nat) (K : Option Addr) (d : Nat) (w : World) (hk : T.kind = 51)
include D hR T A c K d w hk
theorem rt51a (hd1 : d = 1) (hT : Te T) (hD : T.depth ≤ D + 1) (hWt : T.weight ≤ 1000000) (hN : NodeAt w T A c K d) :
  Calls Tryz.prog 99 #[ndV T A c K d] w fun e w' => e = .returned (.string (ba T.txt)) ∧ Below w.heap.size w w' := by
 have hlen3 : 1 ≤ T.kids.length := len_call hk hT.1
 obtain ⟨t0, hg0⟩ : ∃ t0, T.kids[0]? = some t0 := ⟨_, gEo⟩
 have htk : T.kids = t0 :: T.kids.drop 1 := by
  match hks : T.kids, hg0 with
  | a :: r, h => simp at h; simp [h]
 obtain ⟨b, off, A0, c0', K0, d0, hKe0, hC0, hN0⟩ := hN.kid hg0
 have hm0 := mog hg0
 have hd0 := wKM hD hWt t0 hm0
 have hz0 := ba_len (nodeAt_okN t0 hN0) hd0.2
 rw [Nat.zero_mul, Nat.add_zero] at hC0
 subst hKe0
 have HR0 := Lh (fun W (hb : Below w.heap.size w W) => hR t0 A0 c0' K0 d0 W (te_kids hT t0 hm0) hd0.1 hd0.2 (hN0.later hb))
 have i0 : (0 : Int) < (T.kids.length : Int) := by omega
 have i0' : 0 < T.kids.length := by omega
 have i1 : (1 : Int) ≤ (T.kids.length : Int) := by omega
 have hkd := hN.parts.2.2.2.2.1
 have hkd2 := hN.parts.2.2.2.2.2.1
 have i2 : (1 : Int) ≤ (d : Int) := by omega
 have i3 : (T.kids.length : Int) ≤ (d : Int) := by omega
 have hcut := hN.parts.2.2.2.2.2.2.2.2.2.cut 1 d hkd
 have hsb := sep_bound com (T.kids.drop 1) (fun t ht => kidsAt_okN hN.parts.2.2.2.2.2.2.2.2.2 t (List.mem_of_mem_drop ht)) lq28
 have hwd := weights_drop T.kids 1
 have hzr : (ba (sepL com ((T.kids.drop 1).map Nd.txt))).size ≤ 2000000000 := by rw [ba_size]; have := T.weight_eq; have := weights_len T.kids; have := drop_len (T.kids.map Nd.txt) 1; simp only [List.length_drop, List.length_map] at *; omega
 have HRR := Lh (fun W (hb : Below w.heap.size w W) K1 (hK1 : KidsAt w (T.kids.drop 1) K1 0) n1 (hn1 : (T.kids.drop 1).length = n1) d1 (h1 : n1 ≤ d1) (h2 : d1 ≤ maxLen) => rRow_ok D hR com (T.kids.drop 1) n1 K1 d1 W hn1 (hK1.later hb) (fun t ht => te_kids hT t (List.mem_of_mem_drop ht)) (fun t ht => wKM hD hWt t (List.mem_of_mem_drop ht)) lq22 lq28 h1 h2)
 subst hd1
 rw [if_pos rfl] at hcut
 have HRR1 := Lh (fun W (hb : Below w.heap.size w W) => HRR.out W hb _ hcut 0 lq20 0 (Nat.le_refl _) lq24)
 have hts : T.txt = t0.txt ++ [40] ++ sepL com ((T.kids.drop 1).map Nd.txt) ++ [41] := by 
  exact lv181
 have HTX := Lh hts
 obtain ⟨z31, z34, z32, z33, z23, z35, z36, z37⟩ := kz8 hk 31 34 32 33 23 35 36 37 rfl
 obtain ⟨z38, z39, z40, z41, z42, z43, z44, z45⟩ := kz8 hk 38 39 40 41 42 43 44 45 rfl
 obtain ⟨z46, z48, z49, z47, z50⟩ := kz5 hk 46 48 49 47 50 rfl
 have z51 : (T.kind == 51) = true := by rw [hk]; rfl
 obtain ⟨z52, z54⟩ := kz2 hk 52 54 rfl
 have hoK := nodeAt_okN T hN
 have hzT := ba_len hoK hWt
 clear hoK hts
 obtain ⟨hm1, hm2, hrm, hw32, hk1, hk2, ⟨hk64a, hk64b⟩, ⟨ha64a, ha64b⟩, hts, hKs, HK⟩ := hN.hd
 have hb1 := (Below.refl w.heap.size w).alloc (Nat.le_refl _) (.cells #[.int .i64 T.kind, .int .i64 T.pos, .string T.text, .bool T.neg, .slice A T.mag.length c, .slice (some ⟨b, off, none⟩) T.kids.length 1] 27)
 obtain ⟨c0, c1, c2, c3, c4, c5⟩ := (cellsN_new w T A c (some ⟨b, off, none⟩) 1 27).box
 obtain ⟨n00, n01, n02, n03, n04, n05⟩ := hC0.later hb1
 have hlk0 := blt n00
 have hlb1 := blt c0
 have hs0 := fun W (hb : Below (w.alloc (.cells #[.int .i64 T.kind, .int .i64 T.pos, .string T.text, .bool T.neg, .slice A T.mag.length c, .slice (some ⟨b, off, none⟩) T.kids.length 1] 27)).heap.size (w.alloc (.cells #[.int .i64 T.kind, .int .i64 T.pos, .string T.text, .bool T.neg, .slice A T.mag.length c, .slice (some ⟨b, off, none⟩) T.kids.length 1] 27)) W) => HR0.out W (hb1.trans (hb.mono hb1.size))
 unfold ndV at hs0
 have HS0 := Lh hs0
 clear hs0
 have hsr := fun W (hb : Below (w.alloc (.cells #[.int .i64 T.kind, .int .i64 T.pos, .string T.text, .bool T.neg, .slice A T.mag.length c, .slice (some ⟨b, off, none⟩) T.kids.length 1] 27)).heap.size (w.alloc (.cells #[.int .i64 T.kind, .int .i64 T.pos, .string T.text, .bool T.neg, .slice A T.mag.length c, .slice (some ⟨b, off, none⟩) T.kids.length 1] 27)) W) => HRR1.out W (hb1.trans (hb.mono hb1.size))
 simp only [show ba com = ({ data := #[44, 32] } : ByteArray) from rfl] at hsr
 obtain ⟨Y, hY⟩ : ∃ Y, ba (sepL com ((T.kids.drop 1).map Nd.txt)) = Y := ⟨_, rfl⟩
 rw [hY] at hzr
 simp only [hY] at hsr
 have HY := Lh hY
 clear hY
 have HSR := Lh hsr
 clear hsr
 have hqs0 : ({ data := #[40] } : ByteArray).size = 1 := rfl
 have hqs1 : ({ data := #[41] } : ByteArray).size = 1 := rfl
 have had0 := fun (W : World) => run_string_add_sum (P := Tryz.prog) (w := W) (ba t0.txt) (({ data := #[40] } : ByteArray)) lq18
 have had1 := fun (W : World) => run_string_add_sum (P := Tryz.prog) (w := W) (ba t0.txt ++ ({ data := #[40] } : ByteArray)) (Y) lq18
 have had2 := fun (W : World) => run_string_add_sum (P := Tryz.prog) (w := W) (ba t0.txt ++ ({ data := #[40] } : ByteArray) ++ Y) (({ data := #[41] } : ByteArray)) lq18
 clear hqs0 hqs1
 unfold ndV
 clear hKs hN hR hT hD hWt hk hrm hw32 hlen3 htk hg0 hN0 hm0 hd0 hcut hsb hwd HRR
 go_enter Tryz.func99, Tryz.ntmps99
 go_wp2_with fail
 generalize w.alloc (.cells #[.int .i64 T.kind, .int .i64 T.pos, .string T.text, .bool T.neg, .slice A T.mag.length c, .slice (some ⟨b, off, none⟩) T.kids.length 1] 27) = w1 at *
 exact lv37
theorem rt51b (hd1 : ¬ d = 1) (hT : Te T) (hD : T.depth ≤ D + 1) (hWt : T.weight ≤ 1000000) (hN : NodeAt w T A c K d) :
  Calls Tryz.prog 99 #[ndV T A c K d] w fun e w' => e = .returned (.string (ba T.txt)) ∧ Below w.heap.size w w' := by
 have hlen3 : 1 ≤ T.kids.length := len_call hk hT.1
 obtain ⟨t0, hg0⟩ : ∃ t0, T.kids[0]? = some t0 := ⟨_, gEo⟩
 have htk : T.kids = t0 :: T.kids.drop 1 := by
  match hks : T.kids, hg0 with
  | a :: r, h => simp at h; simp [h]
 obtain ⟨b, off, A0, c0', K0, d0, hKe0, hC0, hN0⟩ := hN.kid hg0
 have hm0 := mog hg0
 have hd0 := wKM hD hWt t0 hm0
 have hz0 := ba_len (nodeAt_okN t0 hN0) hd0.2
 rw [Nat.zero_mul, Nat.add_zero] at hC0
 subst hKe0
 have HR0 := Lh (fun W (hb : Below w.heap.size w W) => hR t0 A0 c0' K0 d0 W (te_kids hT t0 hm0) hd0.1 hd0.2 (hN0.later hb))
 have i0 : (0 : Int) < (T.kids.length : Int) := by omega
 have i0' : 0 < T.kids.length := by omega
 have i1 : (1 : Int) ≤ (T.kids.length : Int) := by omega
 have hkd := hN.parts.2.2.2.2.1
 have hkd2 := hN.parts.2.2.2.2.2.1
 have i2 : (1 : Int) ≤ (d : Int) := by omega
 have i3 : (T.kids.length : Int) ≤ (d : Int) := by omega
 have hcut := hN.parts.2.2.2.2.2.2.2.2.2.cut 1 d hkd
 have hsb := sep_bound com (T.kids.drop 1) (fun t ht => kidsAt_okN hN.parts.2.2.2.2.2.2.2.2.2 t (List.mem_of_mem_drop ht)) lq28
 have hwd := weights_drop T.kids 1
 have hzr : (ba (sepL com ((T.kids.drop 1).map Nd.txt))).size ≤ 2000000000 := by rw [ba_size]; have := T.weight_eq; have := weights_len T.kids; have := drop_len (T.kids.map Nd.txt) 1; simp only [List.length_drop, List.length_map] at *; omega
 have HRR := Lh (fun W (hb : Below w.heap.size w W) K1 (hK1 : KidsAt w (T.kids.drop 1) K1 0) n1 (hn1 : (T.kids.drop 1).length = n1) d1 (h1 : n1 ≤ d1) (h2 : d1 ≤ maxLen) => rRow_ok D hR com (T.kids.drop 1) n1 K1 d1 W hn1 (hK1.later hb) (fun t ht => te_kids hT t (List.mem_of_mem_drop ht)) (fun t ht => wKM hD hWt t (List.mem_of_mem_drop ht)) lq22 lq28 h1 h2)
 rw [if_neg hd1] at hcut
 have HRR1 := Lh (fun W (hb : Below w.heap.size w W) => HRR.out W hb (some ⟨b, off + 6, none⟩) hcut (T.kids.length - 1) (by rw [List.length_drop]) (d - 1) lq29 lq29)
 have hts : T.txt = t0.txt ++ [40] ++ sepL com ((T.kids.drop 1).map Nd.txt) ++ [41] := by 
  exact lv181
 have HTX := Lh hts
 obtain ⟨z31, z34, z32, z33, z23, z35, z36, z37⟩ := kz8 hk 31 34 32 33 23 35 36 37 rfl
 obtain ⟨z38, z39, z40, z41, z42, z43, z44, z45⟩ := kz8 hk 38 39 40 41 42 43 44 45 rfl
 obtain ⟨z46, z48, z49, z47, z50⟩ := kz5 hk 46 48 49 47 50 rfl
 have z51 : (T.kind == 51) = true := by rw [hk]; rfl
 obtain ⟨z52, z54⟩ := kz2 hk 52 54 rfl
 have hoK := nodeAt_okN T hN
 have hzT := ba_len hoK hWt
 clear hoK hts
 obtain ⟨hm1, hm2, hrm, hw32, hk1, hk2, ⟨hk64a, hk64b⟩, ⟨ha64a, ha64b⟩, hts, hKs, HK⟩ := hN.hd
 obtain ⟨hb1, c0, c1, c2, c3, c4, c5⟩ := bxn w T A c (some ⟨b, off, none⟩) d
 obtain ⟨n00, n01, n02, n03, n04, n05⟩ := hC0.later hb1
 have hlk0 := blt n00
 have hlb1 := blt c0
 have hs0 := fun W (hb : Below (w.alloc (bx T.kind T A c (some ⟨b, off, none⟩) d)).heap.size (w.alloc (bx T.kind T A c (some ⟨b, off, none⟩) d)) W) => HR0.out W (hb1.trans (hb.mono hb1.size))
 unfold ndV at hs0
 have HS0 := Lh hs0
 clear hs0
 have hsr := fun W (hb : Below (w.alloc (bx T.kind T A c (some ⟨b, off, none⟩) d)).heap.size (w.alloc (bx T.kind T A c (some ⟨b, off, none⟩) d)) W) => HRR1.out W (hb1.trans (hb.mono hb1.size))
 simp only [show ba com = ({ data := #[44, 32] } : ByteArray) from rfl] at hsr
 obtain ⟨Y, hY⟩ : ∃ Y, ba (sepL com ((T.kids.drop 1).map Nd.txt)) = Y := ⟨_, rfl⟩
 rw [hY] at hzr
 simp only [hY] at hsr
 have HY := Lh hY
 clear hY
 have HSR := Lh hsr
 clear hsr
 have hqs0 : ({ data := #[40] } : ByteArray).size = 1 := rfl
 have hqs1 : ({ data := #[41] } : ByteArray).size = 1 := rfl
 have had0 := fun (W : World) => run_string_add_sum (P := Tryz.prog) (w := W) (ba t0.txt) (({ data := #[40] } : ByteArray)) lq18
 have had1 := fun (W : World) => run_string_add_sum (P := Tryz.prog) (w := W) (ba t0.txt ++ ({ data := #[40] } : ByteArray)) (Y) lq18
 have had2 := fun (W : World) => run_string_add_sum (P := Tryz.prog) (w := W) (ba t0.txt ++ ({ data := #[40] } : ByteArray) ++ Y) (({ data := #[41] } : ByteArray)) lq18
 clear hqs0 hqs1
 unfold ndV
 clear hKs hN hR hT hD hWt hk hrm hw32 hlen3 htk hg0 hN0 hm0 hd0 hcut hsb hwd HRR
 go_enter Tryz.func99, Tryz.ntmps99
 go_wp2_with fail
 generalize w.alloc (bx T.kind T A c (some ⟨b, off, none⟩) d) = w1 at *
 exact lv37
end

section
variable (D : Nat) (hR : RTxOk D) (T : Nd) (A : Option Addr) (c : Nat) (K : Option Addr) (d : Nat) (w : World)
include D hR T A c K d w
theorem rt48 (hk : T.kind = 48) (hbig : T.text.size ≤ 900) (hT : Te T) (hD : T.depth ≤ D + 1) (hWt : T.weight ≤ 1000000) (hN : NodeAt w T A c K d) :
  Calls Tryz.prog 99 #[ndV T A c K d] w fun e w' => e = .returned (.string (ba T.txt)) ∧ Below w.heap.size w w' := by
 have hlen3 : T.kids.length = 2 := len_row hk hT.1 (tx := (.words compsL)) (L := [.expr, .expr]) rfl lq28
 have HKA := Lh hN.parts.2.2.2.2.2.2.2.2.2
 have HTE := Lh (te_kids hT)
 have HWI := Lh (wKM hD hWt)
 have HWL := Lh (show weights T.kids ≤ 1000000 by have := T.weight_eq; omega)
 have HR := Lh hR
 have hk2' := hN.parts.2.2.2.2.2.1
 have hzx : T.text.size ≤ 900 := hbig
 have hsb := sep_bound ([32] ++ tx T ++ [32]) T.kids (kidsAt_okN hN.parts.2.2.2.2.2.2.2.2.2) (by (have ht : (tx T).length = T.text.size := (by simp [tx])); (simp only [length_append, length_cons, length_nil]); omega)
 have hzr : (ba (sepL ([32] ++ tx T ++ [32]) (T.kids.map Nd.txt))).size ≤ 2000000000 := by rw [ba_size]; have := T.weight_eq; have := weights_len T.kids; omega
 clear hsb
 have hsp : ba ([32] ++ tx T ++ [32]) = ({ data := #[32] } : ByteArray) ++ T.text ++ { data := #[32] } := by rw [← ba_app, ← ba_app, ba_text]; rfl
 have HSP := Lh hsp
 clear hsp
 obtain ⟨Y, hY⟩ : ∃ Y, ba (sepL ([32] ++ tx T ++ [32]) (T.kids.map Nd.txt)) = Y := ⟨_, rfl⟩
 rw [hY] at hzr
 have HY := Lh hY
 clear hY
 obtain ⟨t0, t1, hks⟩ := kids_2 hlen3
 have hts : T.txt = [40] ++ sepL ([32] ++ tx T ++ [32]) (T.kids.map Nd.txt) ++ [41] := by rw [txt_eq, hks]; simp [txtOf, hk, gl, sepL]
 have HTX := Lh hts
 obtain ⟨z31, z34, z32, z33, z23, z35, z36, z37⟩ := kz8 hk 31 34 32 33 23 35 36 37 rfl
 obtain ⟨z38, z39, z40, z41, z42, z43, z44, z45⟩ := kz8 hk 38 39 40 41 42 43 44 45 rfl
 have z46 : (T.kind == 46) = false := by rw [hk]; rfl
 have z48 : (T.kind == 48) = true := by rw [hk]; rfl
 obtain ⟨z49, z47, z50, z51, z52, z54⟩ := kz6 hk 49 47 50 51 52 54 rfl
 exact lv80
theorem rt49 (hk : T.kind = 49) (hbig : T.text.size ≤ 900) (hT : Te T) (hD : T.depth ≤ D + 1) (hWt : T.weight ≤ 1000000) (hN : NodeAt w T A c K d) :
  Calls Tryz.prog 99 #[ndV T A c K d] w fun e w' => e = .returned (.string (ba T.txt)) ∧ Below w.heap.size w w' := by
 have hlen3 : T.kids.length = 2 := len_row hk hT.1 (tx := (.words signsL)) (L := [.expr, .expr]) rfl lq28
 have HKA := Lh hN.parts.2.2.2.2.2.2.2.2.2
 have HTE := Lh (te_kids hT)
 have HWI := Lh (wKM hD hWt)
 have HWL := Lh (show weights T.kids ≤ 1000000 by have := T.weight_eq; omega)
 have HR := Lh hR
 have hk2' := hN.parts.2.2.2.2.2.1
 have hzx : T.text.size ≤ 900 := hbig
 have hsb := sep_bound ([32] ++ tx T ++ [32]) T.kids (kidsAt_okN hN.parts.2.2.2.2.2.2.2.2.2) (by (have ht : (tx T).length = T.text.size := (by simp [tx])); (simp only [length_append, length_cons, length_nil]); omega)
 have hzr : (ba (sepL ([32] ++ tx T ++ [32]) (T.kids.map Nd.txt))).size ≤ 2000000000 := by rw [ba_size]; have := T.weight_eq; have := weights_len T.kids; omega
 clear hsb
 have hsp : ba ([32] ++ tx T ++ [32]) = ({ data := #[32] } : ByteArray) ++ T.text ++ { data := #[32] } := by rw [← ba_app, ← ba_app, ba_text]; rfl
 have HSP := Lh hsp
 clear hsp
 obtain ⟨Y, hY⟩ : ∃ Y, ba (sepL ([32] ++ tx T ++ [32]) (T.kids.map Nd.txt)) = Y := ⟨_, rfl⟩
 rw [hY] at hzr
 have HY := Lh hY
 clear hY
 obtain ⟨t0, t1, hks⟩ := kids_2 hlen3
 have hts : T.txt = [40] ++ sepL ([32] ++ tx T ++ [32]) (T.kids.map Nd.txt) ++ [41] := by rw [txt_eq, hks]; simp [txtOf, hk, gl, sepL]
 have HTX := Lh hts
 obtain ⟨z31, z34, z32, z33, z23, z35, z36, z37⟩ := kz8 hk 31 34 32 33 23 35 36 37 rfl
 obtain ⟨z38, z39, z40, z41, z42, z43, z44, z45⟩ := kz8 hk 38 39 40 41 42 43 44 45 rfl
 obtain ⟨z46, z48⟩ := kz2 hk 46 48 rfl
 have z49 : (T.kind == 49) = true := by rw [hk]; rfl
 obtain ⟨z47, z50, z51, z52, z54⟩ := kz5 hk 47 50 51 52 54 rfl
 exact lv80
end

end
end Go.Proofs.YtjefhdlncikhmaaGreatDoor
