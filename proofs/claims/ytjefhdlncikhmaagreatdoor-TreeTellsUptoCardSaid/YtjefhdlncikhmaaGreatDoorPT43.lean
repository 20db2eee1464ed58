/- Joined by a program: Rt6e, Rt7a, Rt7b, Rt7c. -/
import Derived.Test.YtjefhdlncikhmaaGreatDoorPT41
namespace Go.Proofs.YtjefhdlncikhmaaGreatDoor
set_option linter.unusedVariables false
set_option linter.unusedSimpArgs false
set_option maxRecDepth 1000000
set_option maxHeartbeats 16000000
section
open Go.RowKit
open List (length_append length_cons length_nil length_singleton)
theorem rl17 (D : Nat) (hL : RLOk D) (dep : Nat) (hdp : dep + (D + 1) ≤ 1000000) (T : Nd) (A : Option Addr) (c : Nat) (K : Option Addr) (d : Nat) (w : World) (hk : T.kind = 17) (hT : St T) (hD : T.depth ≤ D + 1) (hWt : T.weight ≤ 1000000) (hlen : (T.lin dep).length ≤ 1000000000000) (hN : NodeAt w T A c K d) :
  Calls Tryz.prog 50 #[ndV T A c K d, .int .i64 ((dep : Nat) : Int)] w fun e w' => e = .returned (.string (ba (T.lin dep))) ∧ Below w.heap.size w w' := by
 have hst : (Tx.non.ev T.text && noNumB T && rowB T.kids [Sh.ev Nd.right .targets, Sh.ev Nd.right .expr, Sh.ev Nd.right .block]) = true := by
  exact lv162
 have hro : rowB T.kids [Sh.ev Nd.right .targets, Sh.ev Nd.right .expr, Sh.ev Nd.right .block] = true := (Bool.and_eq_true _ _ ▸ hst).2
 have hlen3 : T.kids.length = 3 := row_len hro
 obtain ⟨t0, t1, t2, hks⟩ := kids_3 (l := T.kids) hlen3
 rw [hks] at hro
 simp only [rowB, Bool.and_eq_true, Bool.and_true] at hro
 obtain ⟨r0, r1, r2⟩ := hro
 have hg0 : T.kids[0]? = some t0 := by rw [hks]; rfl
 obtain ⟨b, off, A0, c0', K0, d0, hKe0, hC0, hN0⟩ := hN.kid hg0
 have hd0 : t0.depth ≤ D ∧ t0.weight ≤ 1000000 := wKM hD hWt t0 (mog hg0)
 have hg1 : T.kids[1]? = some t1 := by rw [hks]; rfl
 obtain ⟨b1, off1, A1, c1', K1, d1, hKe1, hC1, hN1⟩ := hN.kid hg1
 have hd1 : t1.depth ≤ D ∧ t1.weight ≤ 1000000 := wKM hD hWt t1 (mog hg1)
 have hg2 : T.kids[2]? = some t2 := by rw [hks]; rfl
 obtain ⟨b2, off2, A2, c2', K2, d2, hKe2, hC2, hN2⟩ := hN.kid hg2
 have hd2 : t2.depth ≤ D ∧ t2.weight ≤ 1000000 := wKM hD hWt t2 (mog hg2)
 rw [Nat.zero_mul, Nat.add_zero] at hC0
 subst hKe0
 injection hKe1 with e1
 injection e1 with e1 e2
 subst e1 e2
 rw [show 1 * 6 = 6 from rfl] at hC1
 injection hKe2 with e1
 injection e1 with e1 e2
 subst e1 e2
 rw [show 2 * 6 = 12 from rfl] at hC2
 have hdc : (((dep + 1 : Nat)) : Int) = (dep : Int) + 1 := by omega
 have hdcw : (((dep + 1 : Nat)) : Int) = IntKind.i64.wrap ((dep : Int) + 1) := by rw [IntKind.wrap_i64]; omega
 have htz : T.lin dep = padL dep ++ [102, 111, 114, 32] ++ t0.txt ++ [32, 105, 110, 32] ++ t1.txt ++ [58, 10] ++ t2.lin (dep + 1) := by rw [lin_eq]; simp [linOf, hk, kd, gy, hks]
 have HTX := Lh htz
 rw [htz] at hlen
 clear htz
 simp only [length_append, length_cons, length_nil] at hlen
 have hl2 : (t2.lin (dep + 1)).length ≤ 1000000000000 := by omega
 have hz0 := ba_len (nodeAt_okN t0 hN0) hd0.2
 have HR0 := Lh (fun W (hb : Below w.heap.size w W) => rText_ok D t0 A0 c0' K0 d0 W (ev_tgts r0) hd0.1 hd0.2 (hN0.later hb))
 have i0 : (0 : Int) < (T.kids.length : Int) := by omega
 have i0' : 0 < T.kids.length := by omega
 have hz1 := ba_len (nodeAt_okN t1 hN1) hd1.2
 have HR1 := Lh (fun W (hb : Below w.heap.size w W) => rText_ok D t1 A1 c1' K1 d1 W (ev_ex r1).te hd1.1 hd1.2 (hN1.later hb))
 have i1 : (1 : Int) < (T.kids.length : Int) := by omega
 have i1' : 1 < T.kids.length := by omega
 have hz2 : (ba (t2.lin (dep + 1))).size ≤ 1000000000000 := by rw [ba_size]; exact hl2
 have hr2 := (fun W (hb : Below w.heap.size w W) => rWithin_ok D (dep + 1) lq29 hL t2 A2 c2' K2 d2 W (blk_of r2) lq29 hd2.2 hl2 (hN2.later hb))
 simp only [hdcw] at hr2
 have HR2 := Lh hr2
 clear hr2
 have i2 : (2 : Int) < (T.kids.length : Int) := by omega
 have i2' : 2 < T.kids.length := by omega
 obtain ⟨z3, z4, z5, z6, z7, z8, z9, z10⟩ := kz8 hk 3 4 5 6 7 8 9 10 rfl
 obtain ⟨z11, z12, z13, z14, z15, z16⟩ := kz6 hk 11 12 13 14 15 16 rfl
 have z17 : (T.kind == 17) = true := by rw [hk]; rfl
 obtain ⟨z18, z20⟩ := kz2 hk 18 20 rfl
 obtain ⟨hm1, hm2, hrm, hw32, hk1, hk2, ⟨hk64a, hk64b⟩, ⟨ha64a, ha64b⟩, hts, hKs, HK⟩ := hN.hd
 obtain ⟨hb1, c0, c1, c2, c3, c4, c5⟩ := bxn w T A c (some ⟨b, off, none⟩) d
 obtain ⟨n00, n01, n02, n03, n04, n05⟩ := hC0.later hb1
 have hlk0 := blt n00
 obtain ⟨n10, n11, n12, n13, n14, n15⟩ := hC1.later hb1
 have hlk1 := blt n10
 obtain ⟨n20, n21, n22, n23, n24, n25⟩ := hC2.later hb1
 have hlk2 := blt n20
 unfold ndV
 clear hKs hN hT hD hWt hrm hw32 hk hlen hts hL hdc hdcw hst hlen3 hks hg0 hN0 hd0 r0 hg1 hN1 hd1 r1 hg2 hN2 hd2 r2 
 go_enter Tryz.func50, Tryz.ntmps50
 go_wp2_with fail
 generalize w.alloc (bx T.kind T A c (some ⟨b, off, none⟩) d) = w1 at *
 have hlb1 := blt c0
 have hs0 := fun W (hb : Below w1.heap.size w1 W) => HR0.out W (hb1.trans (hb.mono hb1.size))
 unfold ndV at hs0
 have HS0 := Lh hs0
 clear hs0
 have hs1 := fun W (hb : Below w1.heap.size w1 W) => HR1.out W (hb1.trans (hb.mono hb1.size))
 unfold ndV at hs1
 have HS1 := Lh hs1
 clear hs1
 have hs2 := fun W (hb : Below w1.heap.size w1 W) => HR2.out W (hb1.trans (hb.mono hb1.size))
 unfold ndV at hs2
 have HS2 := Lh hs2
 clear hs2
 go_loopw [5, 6] (fun sv iv wr => ∃ k : Nat, iv = .int .i64 k ∧ sv = .string (ba (padL k)) ∧ k ≤ dep ∧ w1 = wr) (fun _ iv _ => dep - (intOf iv).toNat)
 case atStart => exact ⟨0, rfl, rfl, Nat.zero_le _, rfl⟩
 case round =>
  obtain ⟨k, rfl, rfl, hkd, rfl⟩ := hrel; have hzk : (ba (padL k)).size ≤ 1000000 := by rw [ba_size, padL_len]; omega
  by_cases hkl : k < dep
  ·exact lv124
  ·have o1 : decide ((k : Int) < (dep : Int)) = false := dFo; have o2 : decide (k < dep) = false := dFa hkl; obtain ⟨Z, hZ⟩ : ∃ Z, ba (padL k) = Z := ⟨_, rfl⟩; have HZ := Lh (show ba (padL dep) = Z by rw [← hZ, show k = dep by omega]); rw [hZ] at hzk ⊢; clear hZ hkl hkd; go_wp2_with fail; have hqs0 : ({ data := #[102, 111, 114, 32] } : ByteArray).size = 4 := rfl; have hqs1 : ({ data := #[32, 105, 110, 32] } : ByteArray).size = 4 := rfl; have hqs2 : ({ data := #[58, 10] } : ByteArray).size = 2 := rfl
   have had0 := fun (W : World) => run_string_add_sum (P := Tryz.prog) (w := W) (Z) (({ data := #[102, 111, 114, 32] } : ByteArray)) lq18
   have had1 := fun (W : World) => run_string_add_sum (P := Tryz.prog) (w := W) (Z ++ ({ data := #[102, 111, 114, 32] } : ByteArray)) (ba t0.txt) lq18
   have had2 := fun (W : World) => run_string_add_sum (P := Tryz.prog) (w := W) (Z ++ ({ data := #[102, 111, 114, 32] } : ByteArray) ++ ba t0.txt) (({ data := #[32, 105, 110, 32] } : ByteArray)) lq18
   have had3 := fun (W : World) => run_string_add_sum (P := Tryz.prog) (w := W) (Z ++ ({ data := #[102, 111, 114, 32] } : ByteArray) ++ ba t0.txt ++ ({ data := #[32, 105, 110, 32] } : ByteArray)) (ba t1.txt) lq18
   have had4 := fun (W : World) => run_string_add_sum (P := Tryz.prog) (w := W) (Z ++ ({ data := #[102, 111, 114, 32] } : ByteArray) ++ ba t0.txt ++ ({ data := #[32, 105, 110, 32] } : ByteArray) ++ ba t1.txt) (({ data := #[58, 10] } : ByteArray)) lq18
   have had5 := fun (W : World) => run_string_add_sum (P := Tryz.prog) (w := W) (Z ++ ({ data := #[102, 111, 114, 32] } : ByteArray) ++ ba t0.txt ++ ({ data := #[32, 105, 110, 32] } : ByteArray) ++ ba t1.txt ++ ({ data := #[58, 10] } : ByteArray)) (ba (t2.lin (dep + 1))) lq18
   clear hqs0 hqs1 hqs2; have HPK := fun (W : World) (h : Below w1.heap.size w1 W) => show _ ∧ _ ∧ _ ∧ _ ∧ _ ∧ _ ∧ _ ∧ _ ∧ _ ∧ _ ∧ _ ∧ _ ∧ _ ∧ _ ∧ _ ∧ _ ∧ _ ∧ _ ∧ _ from ⟨cLt h n00, cLt h n01, cLt h n02, cLt h n03, cLt h n04, cLt h n05, cLt h n10, cLt h n11, cLt h n12, cLt h n13, cLt h n14, cLt h n15, cLt h n20, cLt h n21, cLt h n22, cLt h n23, cLt h n24, cLt h n25, Nat.lt_of_lt_of_le hlk0 h.size⟩
   go_region_held3 (fun W => W.cell? ⟨b, off, none⟩ = some (.int .i64 t0.kind) ∧ W.cell? ⟨b, off + 1, none⟩ = some (.int .i64 t0.pos) ∧ W.cell? ⟨b, off + 2, none⟩ = some (.string t0.text) ∧ W.cell? ⟨b, off + 3, none⟩ = some (.bool t0.neg) ∧ W.cell? ⟨b, off + 4, none⟩ = some (.slice A0 t0.mag.length c0') ∧ W.cell? ⟨b, off + 5, none⟩ = some (.slice K0 t0.kids.length d0) ∧ W.cell? ⟨b, off + 6, none⟩ = some (.int .i64 t1.kind) ∧ W.cell? ⟨b, off + 6 + 1, none⟩ = some (.int .i64 t1.pos) ∧ W.cell? ⟨b, off + 6 + 2, none⟩ = some (.string t1.text) ∧ W.cell? ⟨b, off + 6 + 3, none⟩ = some (.bool t1.neg) ∧ W.cell? ⟨b, off + 6 + 4, none⟩ = some (.slice A1 t1.mag.length c1') ∧ W.cell? ⟨b, off + 6 + 5, none⟩ = some (.slice K1 t1.kids.length d1) ∧ W.cell? ⟨b, off + 12, none⟩ = some (.int .i64 t2.kind) ∧ W.cell? ⟨b, off + 12 + 1, none⟩ = some (.int .i64 t2.pos) ∧ W.cell? ⟨b, off + 12 + 2, none⟩ = some (.string t2.text) ∧ W.cell? ⟨b, off + 12 + 3, none⟩ = some (.bool t2.neg) ∧ W.cell? ⟨b, off + 12 + 4, none⟩ = some (.slice A2 t2.mag.length c2') ∧ W.cell? ⟨b, off + 12 + 5, none⟩ = some (.slice K2 t2.kids.length d2) ∧ b < W.heap.size) (first | (refine HPK _ ?_; (repeat' (first | with_reducible exact H2 | with_reducible exact H1 | with_reducible exact H0 | with_reducible exact Below.refl _ _ | (with_reducible refine below_drew ?_))))) (first | (go_at_call 99; (with_reducible refine (HS0.out _ ?hbel).mono ?_); (case hbel => (repeat' (first  | with_reducible exact Below.refl _ _ | (with_reducible refine below_drew ?_)))); rintro e w_0 ⟨rfl, hq_0⟩; have H0 := below_then (w1 := w1) hq_0 lq14) | (go_at_call 99; (with_reducible refine (HS1.out _ ?hbel).mono ?_); (case hbel => (repeat' (first | with_reducible exact H0 | with_reducible exact Below.refl _ _ | (with_reducible refine below_drew ?_)))); rintro e w_1 ⟨rfl, hq_1⟩; have H1 := below_then (w1 := w1) hq_1 lq12) | (go_at_call 36; (with_reducible refine (HS2.out _ ?hbel).mono ?_); (case hbel => (repeat' (first | with_reducible exact H1 | with_reducible exact H0 | with_reducible exact Below.refl _ _ | (with_reducible refine below_drew ?_)))); rintro e w_2 ⟨rfl, hq_2⟩; have H2 := below_then (w1 := w1) hq_2 (by (repeat' (first | with_reducible exact H1 | with_reducible exact H0 | with_reducible exact Below.refl _ _ | (with_reducible refine below_drew ?_))))) )
   all_goals
    go_wp2; go_ret; exact ⟨by rw [HTX.out]; (try simp only [← ba_app, ba_text, HZ.out]); rfl, hb1.trans (H2.mono hb1.size)⟩
section
variable (D : Nat) (hL : RLOk D) (dep : Nat) (hdp : dep + (D + 1) ≤ 1000000) (T : Nd) (A : Option Addr) (c : Nat) (K : Option Addr) (d : Nat) (w : World)
include D hL dep hdp T A c K d w
theorem rl13 (hk : T.kind = 13) (hT : St T) (hD : T.depth ≤ D + 1) (hWt : T.weight ≤ 1000000) (hlen : (T.lin dep).length ≤ 1000000000000) (hN : NodeAt w T A c K d) :
  Calls Tryz.prog 50 #[ndV T A c K d, .int .i64 ((dep : Nat) : Int)] w fun e w' => e = .returned (.string (ba (T.lin dep))) ∧ Below w.heap.size w w' := by
 have _ := hL
 have _ := hdp
 have hgl : ∀ t ∈ T.kids, Ex t := by
  exact lv170
 have HKA := Lh hN.parts.2.2.2.2.2.2.2.2.2
 have HTE := Lh (fun t ht => (hgl t ht).te)
 have HWI := Lh (wKM hD hWt)
 have HWL := Lh (show weights T.kids ≤ 1000000 by have := T.weight_eq; omega)
 have hk2' := hN.parts.2.2.2.2.2.1
 have hsb := sep_bound com T.kids (kidsAt_okN hN.parts.2.2.2.2.2.2.2.2.2) lq28
 have hzr : (ba (sepL com (T.kids.map Nd.txt))).size ≤ 2000000000 := by rw [ba_size]; have := T.weight_eq; have := weights_len T.kids; omega
 clear hsb
 have hdc : (((dep + 1 : Nat)) : Int) = (dep : Int) + 1 := by omega
 have hdcw : (((dep + 1 : Nat)) : Int) = IntKind.i64.wrap ((dep : Int) + 1) := by rw [IntKind.wrap_i64]; omega
 have htz : T.lin dep = padL dep ++ [103, 108, 111, 98, 97, 108, 32] ++ sepL com (T.kids.map Nd.txt) ++ [10] := by rw [lin_eq]; simp [linOf, hk]
 have HTX := Lh htz
 rw [htz] at hlen
 clear htz
 simp only [length_append, length_cons, length_nil] at hlen
 obtain ⟨z3, z4, z5, z6, z7, z8, z9, z10⟩ := kz8 hk 3 4 5 6 7 8 9 10 rfl
 obtain ⟨z11, z12⟩ := kz2 hk 11 12 rfl
 have z13 : (T.kind == 13) = true := by rw [hk]; rfl
 obtain ⟨z14, z15, z16, z17, z18, z20⟩ := kz6 hk 14 15 16 17 18 20 rfl
 exact lv23
theorem rl14 (hk : T.kind = 14) (hT : St T) (hD : T.depth ≤ D + 1) (hWt : T.weight ≤ 1000000) (hlen : (T.lin dep).length ≤ 1000000000000) (hN : NodeAt w T A c K d) :
  Calls Tryz.prog 50 #[ndV T A c K d, .int .i64 ((dep : Nat) : Int)] w fun e w' => e = .returned (.string (ba (T.lin dep))) ∧ Below w.heap.size w w' := by
 have _ := hL
 have _ := hdp
 have hgl : ∀ t ∈ T.kids, Ex t := by
  exact lv170
 have HKA := Lh hN.parts.2.2.2.2.2.2.2.2.2
 have HTE := Lh (fun t ht => (hgl t ht).te)
 have HWI := Lh (wKM hD hWt)
 have HWL := Lh (show weights T.kids ≤ 1000000 by have := T.weight_eq; omega)
 have hk2' := hN.parts.2.2.2.2.2.1
 have hsb := sep_bound com T.kids (kidsAt_okN hN.parts.2.2.2.2.2.2.2.2.2) lq28
 have hzr : (ba (sepL com (T.kids.map Nd.txt))).size ≤ 2000000000 := by rw [ba_size]; have := T.weight_eq; have := weights_len T.kids; omega
 clear hsb
 have hdc : (((dep + 1 : Nat)) : Int) = (dep : Int) + 1 := by omega
 have hdcw : (((dep + 1 : Nat)) : Int) = IntKind.i64.wrap ((dep : Int) + 1) := by rw [IntKind.wrap_i64]; omega
 have htz : T.lin dep = padL dep ++ [110, 111, 110, 108, 111, 99, 97, 108, 32] ++ sepL com (T.kids.map Nd.txt) ++ [10] := by rw [lin_eq]; simp [linOf, hk]
 have HTX := Lh htz
 rw [htz] at hlen
 clear htz
 simp only [length_append, length_cons, length_nil] at hlen
 obtain ⟨z3, z4, z5, z6, z7, z8, z9, z10⟩ := kz8 hk 3 4 5 6 7 8 9 10 rfl
 obtain ⟨z11, z12, z13⟩ := kz3 hk 11 12 13 rfl
 have z14 : (T.kind == 14) = true := by rw [hk]; rfl
 obtain ⟨z15, z16, z17, z18, z20⟩ := kz5 hk 15 16 17 18 20 rfl
 exact lv23
end

theorem rl15z (D : Nat) (hL : RLOk D) (dep : Nat) (hdp : dep + (D + 1) ≤ 1000000) (T : Nd) (A : Option Addr) (c : Nat) (K : Option Addr) (d : Nat) (w : World) (hk : T.kind = 15) (hv : ∀ t, T.kids[2]? = some t → t.kind = 0) (hT : St T) (hD : T.depth ≤ D + 1) (hWt : T.weight ≤ 1000000) (hlen : (T.lin dep).length ≤ 1000000000000) (hN : NodeAt w T A c K d) :
  Calls Tryz.prog 50 #[ndV T A c K d, .int .i64 ((dep : Nat) : Int)] w fun e w' => e = .returned (.string (ba (T.lin dep))) ∧ Below w.heap.size w w' := by
 have hst : (Tx.non.ev T.text && noNumB T && rowB T.kids [Sh.ev Nd.right .expr, Sh.ev Nd.right .block, Sh.ev Nd.right (.or2 .none .block)]) = true := by
  exact lv157
 have hro : rowB T.kids [Sh.ev Nd.right .expr, Sh.ev Nd.right .block, Sh.ev Nd.right (.or2 .none .block)] = true := (Bool.and_eq_true _ _ ▸ hst).2
 have hlen3 : T.kids.length = 3 := row_len hro
 obtain ⟨t0, t1, t2, hks⟩ := kids_3 (l := T.kids) hlen3
 rw [hks] at hro
 simp only [rowB, Bool.and_eq_true, Bool.and_true] at hro
 obtain ⟨r0, r1, r2⟩ := hro
 have hg0 : T.kids[0]? = some t0 := by rw [hks]; rfl
 obtain ⟨b, off, A0, c0', K0, d0, hKe0, hC0, hN0⟩ := hN.kid hg0
 have hd0 : t0.depth ≤ D ∧ t0.weight ≤ 1000000 := wKM hD hWt t0 (mog hg0)
 have hg1 : T.kids[1]? = some t1 := by rw [hks]; rfl
 obtain ⟨b1, off1, A1, c1', K1, d1, hKe1, hC1, hN1⟩ := hN.kid hg1
 have hd1 : t1.depth ≤ D ∧ t1.weight ≤ 1000000 := wKM hD hWt t1 (mog hg1)
 have hg2 : T.kids[2]? = some t2 := by rw [hks]; rfl
 obtain ⟨b2, off2, A2, c2', K2, d2, hKe2, hC2, hN2⟩ := hN.kid hg2
 have hd2 : t2.depth ≤ D ∧ t2.weight ≤ 1000000 := wKM hD hWt t2 (mog hg2)
 rw [Nat.zero_mul, Nat.add_zero] at hC0
 subst hKe0
 injection hKe1 with e1
 injection e1 with e1 e2
 subst e1 e2
 rw [show 1 * 6 = 6 from rfl] at hC1
 injection hKe2 with e1
 injection e1 with e1 e2
 subst e1 e2
 rw [show 2 * 6 = 12 from rfl] at hC2
 have hv2 := hv t2 hg2
 have q2 : (t2.kind == 0) = true := by rw [hv2]; rfl
 have q2' : (t2.kind != 0) = false := by rw [bne, q2]; rfl
 have hdc : (((dep + 1 : Nat)) : Int) = (dep : Int) + 1 := by omega
 have hdcw : (((dep + 1 : Nat)) : Int) = IntKind.i64.wrap ((dep : Int) + 1) := by rw [IntKind.wrap_i64]; omega
 have htz : T.lin dep = padL dep ++ [105, 102, 32] ++ t0.txt ++ [58, 10] ++ t1.lin (dep + 1) := by rw [lin_eq]; simp [linOf, hk, kd, gy, hks, hv2]
 have HTX := Lh htz
 rw [htz] at hlen
 clear htz
 simp only [length_append, length_cons, length_nil] at hlen
 have hl1 : (t1.lin (dep + 1)).length ≤ 1000000000000 := by omega
 have hz0 := ba_len (nodeAt_okN t0 hN0) hd0.2
 have HR0 := Lh (fun W (hb : Below w.heap.size w W) => rText_ok D t0 A0 c0' K0 d0 W (ev_ex r0).te hd0.1 hd0.2 (hN0.later hb))
 have i0 : (0 : Int) < (T.kids.length : Int) := by omega
 have i0' : 0 < T.kids.length := by omega
 have hz1 : (ba (t1.lin (dep + 1))).size ≤ 1000000000000 := by rw [ba_size]; exact hl1
 have hr1 := (fun W (hb : Below w.heap.size w W) => rWithin_ok D (dep + 1) lq29 hL t1 A1 c1' K1 d1 W (blk_of r1) lq29 hd1.2 hl1 (hN1.later hb))
 simp only [hdcw] at hr1
 have HR1 := Lh hr1
 clear hr1
 have i1 : (1 : Int) < (T.kids.length : Int) := by omega
 have i1' : 1 < T.kids.length := by omega
 have i2 : (2 : Int) < (T.kids.length : Int) := by omega
 have i2' : 2 < T.kids.length := by omega
 obtain ⟨z3, z4, z5, z6, z7, z8, z9, z10⟩ := kz8 hk 3 4 5 6 7 8 9 10 rfl
 obtain ⟨z11, z12, z13, z14⟩ := kz4 hk 11 12 13 14 rfl
 have z15 : (T.kind == 15) = true := by rw [hk]; rfl
 obtain ⟨z16, z17, z18, z20⟩ := kz4 hk 16 17 18 20 rfl
 obtain ⟨hm1, hm2, hrm, hw32, hk1, hk2, ⟨hk64a, hk64b⟩, ⟨ha64a, ha64b⟩, hts, hKs, HK⟩ := hN.hd
 obtain ⟨hb1, c0, c1, c2, c3, c4, c5⟩ := bxn w T A c (some ⟨b, off, none⟩) d
 obtain ⟨n00, n01, n02, n03, n04, n05⟩ := hC0.later hb1
 have hlk0 := blt n00
 obtain ⟨n10, n11, n12, n13, n14, n15⟩ := hC1.later hb1
 have hlk1 := blt n10
 obtain ⟨n20, n21, n22, n23, n24, n25⟩ := hC2.later hb1
 have hlk2 := blt n20
 unfold ndV
 clear hKs hN hT hD hWt hrm hw32 hk hlen hts hL hdc hdcw hst hlen3 hks hg0 hN0 hd0 r0 hg1 hN1 hd1 r1 hg2 hN2 hd2 r2 hv hv2
 go_enter Tryz.func50, Tryz.ntmps50
 go_wp2_with fail
 generalize w.alloc (bx T.kind T A c (some ⟨b, off, none⟩) d) = w1 at *
 have hlb1 := blt c0
 have hs0 := fun W (hb : Below w1.heap.size w1 W) => HR0.out W (hb1.trans (hb.mono hb1.size))
 unfold ndV at hs0
 have HS0 := Lh hs0
 clear hs0
 have hs1 := fun W (hb : Below w1.heap.size w1 W) => HR1.out W (hb1.trans (hb.mono hb1.size))
 unfold ndV at hs1
 have HS1 := Lh hs1
 clear hs1
 go_loopw [5, 6] (fun sv iv wr => ∃ k : Nat, iv = .int .i64 k ∧ sv = .string (ba (padL k)) ∧ k ≤ dep ∧ w1 = wr) (fun _ iv _ => dep - (intOf iv).toNat)
 case atStart => exact ⟨0, rfl, rfl, Nat.zero_le _, rfl⟩
 case round =>
  obtain ⟨k, rfl, rfl, hkd, rfl⟩ := hrel; have hzk : (ba (padL k)).size ≤ 1000000 := by rw [ba_size, padL_len]; omega
  by_cases hkl : k < dep
  ·exact lv124
  ·have o1 : decide ((k : Int) < (dep : Int)) = false := dFo; have o2 : decide (k < dep) = false := dFa hkl; obtain ⟨Z, hZ⟩ : ∃ Z, ba (padL k) = Z := ⟨_, rfl⟩; have HZ := Lh (show ba (padL dep) = Z by rw [← hZ, show k = dep by omega]); rw [hZ] at hzk ⊢; clear hZ hkl hkd; go_wp2_with fail; have hqs0 : ({ data := #[105, 102, 32] } : ByteArray).size = 3 := rfl; have hqs1 : ({ data := #[58, 10] } : ByteArray).size = 2 := rfl; have had0 := fun (W : World) => run_string_add_sum (P := Tryz.prog) (w := W) (Z) (({ data := #[105, 102, 32] } : ByteArray)) lq18
   have had1 := fun (W : World) => run_string_add_sum (P := Tryz.prog) (w := W) (Z ++ ({ data := #[105, 102, 32] } : ByteArray)) (ba t0.txt) lq18
   have had2 := fun (W : World) => run_string_add_sum (P := Tryz.prog) (w := W) (Z ++ ({ data := #[105, 102, 32] } : ByteArray) ++ ba t0.txt) (({ data := #[58, 10] } : ByteArray)) lq18
   have had3 := fun (W : World) => run_string_add_sum (P := Tryz.prog) (w := W) (Z ++ ({ data := #[105, 102, 32] } : ByteArray) ++ ba t0.txt ++ ({ data := #[58, 10] } : ByteArray)) (ba (t1.lin (dep + 1))) lq18
   clear hqs0 hqs1; have HPK := fun (W : World) (h : Below w1.heap.size w1 W) => show _ ∧ _ ∧ _ ∧ _ ∧ _ ∧ _ ∧ _ ∧ _ ∧ _ ∧ _ ∧ _ ∧ _ ∧ _ ∧ _ ∧ _ ∧ _ ∧ _ ∧ _ ∧ _ from ⟨cLt h n00, cLt h n01, cLt h n02, cLt h n03, cLt h n04, cLt h n05, cLt h n10, cLt h n11, cLt h n12, cLt h n13, cLt h n14, cLt h n15, cLt h n20, cLt h n21, cLt h n22, cLt h n23, cLt h n24, cLt h n25, Nat.lt_of_lt_of_le hlk0 h.size⟩
   go_region_held3 (fun W => W.cell? ⟨b, off, none⟩ = some (.int .i64 t0.kind) ∧ W.cell? ⟨b, off + 1, none⟩ = some (.int .i64 t0.pos) ∧ W.cell? ⟨b, off + 2, none⟩ = some (.string t0.text) ∧ W.cell? ⟨b, off + 3, none⟩ = some (.bool t0.neg) ∧ W.cell? ⟨b, off + 4, none⟩ = some (.slice A0 t0.mag.length c0') ∧ W.cell? ⟨b, off + 5, none⟩ = some (.slice K0 t0.kids.length d0) ∧ W.cell? ⟨b, off + 6, none⟩ = some (.int .i64 t1.kind) ∧ W.cell? ⟨b, off + 6 + 1, none⟩ = some (.int .i64 t1.pos) ∧ W.cell? ⟨b, off + 6 + 2, none⟩ = some (.string t1.text) ∧ W.cell? ⟨b, off + 6 + 3, none⟩ = some (.bool t1.neg) ∧ W.cell? ⟨b, off + 6 + 4, none⟩ = some (.slice A1 t1.mag.length c1') ∧ W.cell? ⟨b, off + 6 + 5, none⟩ = some (.slice K1 t1.kids.length d1) ∧ W.cell? ⟨b, off + 12, none⟩ = some (.int .i64 t2.kind) ∧ W.cell? ⟨b, off + 12 + 1, none⟩ = some (.int .i64 t2.pos) ∧ W.cell? ⟨b, off + 12 + 2, none⟩ = some (.string t2.text) ∧ W.cell? ⟨b, off + 12 + 3, none⟩ = some (.bool t2.neg) ∧ W.cell? ⟨b, off + 12 + 4, none⟩ = some (.slice A2 t2.mag.length c2') ∧ W.cell? ⟨b, off + 12 + 5, none⟩ = some (.slice K2 t2.kids.length d2) ∧ b < W.heap.size) (first | (refine HPK _ ?_; (repeat' (first | with_reducible exact H1 | with_reducible exact H0 | with_reducible exact Below.refl _ _ | (with_reducible refine below_drew ?_))))) (first | (go_at_call 99; (with_reducible refine (HS0.out _ ?hbel).mono ?_); (case hbel => (repeat' (first  | with_reducible exact Below.refl _ _ | (with_reducible refine below_drew ?_)))); rintro e w_0 ⟨rfl, hq_0⟩; have H0 := below_then (w1 := w1) hq_0 lq14) | (go_at_call 36; (with_reducible refine (HS1.out _ ?hbel).mono ?_); (case hbel => (repeat' (first | with_reducible exact H0 | with_reducible exact Below.refl _ _ | (with_reducible refine below_drew ?_)))); rintro e w_1 ⟨rfl, hq_1⟩; have H1 := below_then (w1 := w1) hq_1 lq12) )
   all_goals
    obtain ⟨m2_0, m2_1, m2_2, m2_3, m2_4, m2_5⟩ := cl6 H1 n20 n21 n22 n23 n24 n25; have hlm := blt m2_0; obtain ⟨e0, e1, e2, e3, e4, e5⟩ := cl6 H1 c0 c1 c2 c3 c4 c5; have HH := Lh H1; go_wp2_with fail; go_ret; exact ⟨by rw [HTX.out]; (try simp only [← ba_app, ba_text, HZ.out]); rfl, hb1.trans (HH.out.mono hb1.size)⟩
theorem rl15b (D : Nat) (hL : RLOk D) (dep : Nat) (hdp : dep + (D + 1) ≤ 1000000) (T : Nd) (A : Option Addr) (c : Nat) (K : Option Addr) (d : Nat) (w : World) (hk : T.kind = 15) (hv : ∀ t, T.kids[2]? = some t → ¬ t.kind = 0) (hT : St T) (hD : T.depth ≤ D + 1) (hWt : T.weight ≤ 1000000) (hlen : (T.lin dep).length ≤ 1000000000000) (hN : NodeAt w T A c K d) :
  Calls Tryz.prog 50 #[ndV T A c K d, .int .i64 ((dep : Nat) : Int)] w fun e w' => e = .returned (.string (ba (T.lin dep))) ∧ Below w.heap.size w w' := by
 have hst : (Tx.non.ev T.text && noNumB T && rowB T.kids [Sh.ev Nd.right .expr, Sh.ev Nd.right .block, Sh.ev Nd.right (.or2 .none .block)]) = true := by
  exact lv157
 have hro : rowB T.kids [Sh.ev Nd.right .expr, Sh.ev Nd.right .block, Sh.ev Nd.right (.or2 .none .block)] = true := (Bool.and_eq_true _ _ ▸ hst).2
 have hlen3 : T.kids.length = 3 := row_len hro
 obtain ⟨t0, t1, t2, hks⟩ := kids_3 (l := T.kids) hlen3
 rw [hks] at hro
 simp only [rowB, Bool.and_eq_true, Bool.and_true] at hro
 obtain ⟨r0, r1, r2⟩ := hro
 have hg0 : T.kids[0]? = some t0 := by rw [hks]; rfl
 obtain ⟨b, off, A0, c0', K0, d0, hKe0, hC0, hN0⟩ := hN.kid hg0
 have hd0 : t0.depth ≤ D ∧ t0.weight ≤ 1000000 := wKM hD hWt t0 (mog hg0)
 have hg1 : T.kids[1]? = some t1 := by rw [hks]; rfl
 obtain ⟨b1, off1, A1, c1', K1, d1, hKe1, hC1, hN1⟩ := hN.kid hg1
 have hd1 : t1.depth ≤ D ∧ t1.weight ≤ 1000000 := wKM hD hWt t1 (mog hg1)
 have hg2 : T.kids[2]? = some t2 := by rw [hks]; rfl
 obtain ⟨b2, off2, A2, c2', K2, d2, hKe2, hC2, hN2⟩ := hN.kid hg2
 have hd2 : t2.depth ≤ D ∧ t2.weight ≤ 1000000 := wKM hD hWt t2 (mog hg2)
 rw [Nat.zero_mul, Nat.add_zero] at hC0
 subst hKe0
 injection hKe1 with e1
 injection e1 with e1 e2
 subst e1 e2
 rw [show 1 * 6 = 6 from rfl] at hC1
 injection hKe2 with e1
 injection e1 with e1 e2
 subst e1 e2
 rw [show 2 * 6 = 12 from rfl] at hC2
 have hv2 := hv t2 hg2
 have q2 : (t2.kind == 0) = false := beq_eq_false_iff_ne.2 hv2
 have q2' : (t2.kind != 0) = true := by rw [bne, q2]; rfl
 have hb2 : Sh.block.ev Nd.right t2 = true := by
  rcases Bool.or_eq_true _ _ ▸ (show (Sh.none.ev Nd.right t2 || Sh.block.ev Nd.right t2) = true from r2) with h | h
  ·exact absurd (kind_none h) hv2
  ·exact h
 have hdc : (((dep + 1 : Nat)) : Int) = (dep : Int) + 1 := by omega
 have hdcw : (((dep + 1 : Nat)) : Int) = IntKind.i64.wrap ((dep : Int) + 1) := by rw [IntKind.wrap_i64]; omega
 have htz : T.lin dep = padL dep ++ [105, 102, 32] ++ t0.txt ++ [58, 10] ++ t1.lin (dep + 1) ++ padL dep ++ [101, 108, 115, 101, 58, 10] ++ t2.lin (dep + 1) := by rw [lin_eq]; simp [linOf, hk, kd, gy, hks, hv2]
 have HTX := Lh htz
 rw [htz] at hlen
 clear htz
 simp only [length_append, length_cons, length_nil] at hlen
 have hl1 : (t1.lin (dep + 1)).length ≤ 1000000000000 := by omega
 have hl2 : (t2.lin (dep + 1)).length ≤ 1000000000000 := by omega
 have hz0 := ba_len (nodeAt_okN t0 hN0) hd0.2
 have HR0 := Lh (fun W (hb : Below w.heap.size w W) => rText_ok D t0 A0 c0' K0 d0 W (ev_ex r0).te hd0.1 hd0.2 (hN0.later hb))
 have i0 : (0 : Int) < (T.kids.length : Int) := by omega
 have i0' : 0 < T.kids.length := by omega
 have hz1 : (ba (t1.lin (dep + 1))).size ≤ 1000000000000 := by rw [ba_size]; exact hl1
 have hr1 := (fun W (hb : Below w.heap.size w W) => rWithin_ok D (dep + 1) lq29 hL t1 A1 c1' K1 d1 W (blk_of r1) lq29 hd1.2 hl1 (hN1.later hb))
 simp only [hdcw] at hr1
 have HR1 := Lh hr1
 clear hr1
 have i1 : (1 : Int) < (T.kids.length : Int) := by omega
 have i1' : 1 < T.kids.length := by omega
 have hz2 : (ba (t2.lin (dep + 1))).size ≤ 1000000000000 := by rw [ba_size]; exact hl2
 have hr2 := (fun W (hb : Below w.heap.size w W) => rWithin_ok D (dep + 1) lq29 hL t2 A2 c2' K2 d2 W (blk_of hb2) lq29 hd2.2 hl2 (hN2.later hb))
 simp only [hdc] at hr2
 have HR2 := Lh hr2
 clear hr2
 have i2 : (2 : Int) < (T.kids.length : Int) := by omega
 have i2' : 2 < T.kids.length := by omega
 obtain ⟨z3, z4, z5, z6, z7, z8, z9, z10⟩ := kz8 hk 3 4 5 6 7 8 9 10 rfl
 obtain ⟨z11, z12, z13, z14⟩ := kz4 hk 11 12 13 14 rfl
 have z15 : (T.kind == 15) = true := by rw [hk]; rfl
 obtain ⟨z16, z17, z18, z20⟩ := kz4 hk 16 17 18 20 rfl
 obtain ⟨hm1, hm2, hrm, hw32, hk1, hk2, ⟨hk64a, hk64b⟩, ⟨ha64a, ha64b⟩, hts, hKs, HK⟩ := hN.hd
 obtain ⟨hb1, c0, c1, c2, c3, c4, c5⟩ := bxn w T A c (some ⟨b, off, none⟩) d
 obtain ⟨n00, n01, n02, n03, n04, n05⟩ := hC0.later hb1
 have hlk0 := blt n00
 obtain ⟨n10, n11, n12, n13, n14, n15⟩ := hC1.later hb1
 have hlk1 := blt n10
 obtain ⟨n20, n21, n22, n23, n24, n25⟩ := hC2.later hb1
 have hlk2 := blt n20
 unfold ndV
 clear hKs hN hT hD hWt hrm hw32 hk hlen hts hL hdc hdcw hst hlen3 hks hg0 hN0 hd0 r0 hg1 hN1 hd1 r1 hg2 hN2 hd2 r2 hv hv2 hb2
 go_enter Tryz.func50, Tryz.ntmps50
 go_wp2_with fail
 generalize w.alloc (bx T.kind T A c (some ⟨b, off, none⟩) d) = w1 at *
 have hlb1 := blt c0
 have hs0 := fun W (hb : Below w1.heap.size w1 W) => HR0.out W (hb1.trans (hb.mono hb1.size))
 unfold ndV at hs0
 have HS0 := Lh hs0
 clear hs0
 have hs1 := fun W (hb : Below w1.heap.size w1 W) => HR1.out W (hb1.trans (hb.mono hb1.size))
 unfold ndV at hs1
 have HS1 := Lh hs1
 clear hs1
 have hs2 := fun W (hb : Below w1.heap.size w1 W) => HR2.out W (hb1.trans (hb.mono hb1.size))
 unfold ndV at hs2
 have HS2 := Lh hs2
 clear hs2
 go_loopw [5, 6] (fun sv iv wr => ∃ k : Nat, iv = .int .i64 k ∧ sv = .string (ba (padL k)) ∧ k ≤ dep ∧ w1 = wr) (fun _ iv _ => dep - (intOf iv).toNat)
 case atStart => exact ⟨0, rfl, rfl, Nat.zero_le _, rfl⟩
 case round =>
  obtain ⟨k, rfl, rfl, hkd, rfl⟩ := hrel; have hzk : (ba (padL k)).size ≤ 1000000 := by rw [ba_size, padL_len]; omega
  by_cases hkl : k < dep
  ·exact lv124
  ·have o1 : decide ((k : Int) < (dep : Int)) = false := dFo; have o2 : decide (k < dep) = false := dFa hkl; obtain ⟨Z, hZ⟩ : ∃ Z, ba (padL k) = Z := ⟨_, rfl⟩; have HZ := Lh (show ba (padL dep) = Z by rw [← hZ, show k = dep by omega]); rw [hZ] at hzk ⊢; clear hZ hkl hkd; go_wp2_with fail; have hqs0 : ({ data := #[105, 102, 32] } : ByteArray).size = 3 := rfl; have hqs1 : ({ data := #[58, 10] } : ByteArray).size = 2 := rfl; have had0 := fun (W : World) => run_string_add_sum (P := Tryz.prog) (w := W) (Z) (({ data := #[105, 102, 32] } : ByteArray)) lq18
   have had1 := fun (W : World) => run_string_add_sum (P := Tryz.prog) (w := W) (Z ++ ({ data := #[105, 102, 32] } : ByteArray)) (ba t0.txt) lq18
   have had2 := fun (W : World) => run_string_add_sum (P := Tryz.prog) (w := W) (Z ++ ({ data := #[105, 102, 32] } : ByteArray) ++ ba t0.txt) (({ data := #[58, 10] } : ByteArray)) lq18
   have had3 := fun (W : World) => run_string_add_sum (P := Tryz.prog) (w := W) (Z ++ ({ data := #[105, 102, 32] } : ByteArray) ++ ba t0.txt ++ ({ data := #[58, 10] } : ByteArray)) (ba (t1.lin (dep + 1))) lq18
   clear hqs0 hqs1; have HPK := fun (W : World) (h : Below w1.heap.size w1 W) => show _ ∧ _ ∧ _ ∧ _ ∧ _ ∧ _ ∧ _ ∧ _ ∧ _ ∧ _ ∧ _ ∧ _ ∧ _ ∧ _ ∧ _ ∧ _ ∧ _ ∧ _ ∧ _ from ⟨cLt h n00, cLt h n01, cLt h n02, cLt h n03, cLt h n04, cLt h n05, cLt h n10, cLt h n11, cLt h n12, cLt h n13, cLt h n14, cLt h n15, cLt h n20, cLt h n21, cLt h n22, cLt h n23, cLt h n24, cLt h n25, Nat.lt_of_lt_of_le hlk0 h.size⟩
   go_region_held3 (fun W => W.cell? ⟨b, off, none⟩ = some (.int .i64 t0.kind) ∧ W.cell? ⟨b, off + 1, none⟩ = some (.int .i64 t0.pos) ∧ W.cell? ⟨b, off + 2, none⟩ = some (.string t0.text) ∧ W.cell? ⟨b, off + 3, none⟩ = some (.bool t0.neg) ∧ W.cell? ⟨b, off + 4, none⟩ = some (.slice A0 t0.mag.length c0') ∧ W.cell? ⟨b, off + 5, none⟩ = some (.slice K0 t0.kids.length d0) ∧ W.cell? ⟨b, off + 6, none⟩ = some (.int .i64 t1.kind) ∧ W.cell? ⟨b, off + 6 + 1, none⟩ = some (.int .i64 t1.pos) ∧ W.cell? ⟨b, off + 6 + 2, none⟩ = some (.string t1.text) ∧ W.cell? ⟨b, off + 6 + 3, none⟩ = some (.bool t1.neg) ∧ W.cell? ⟨b, off + 6 + 4, none⟩ = some (.slice A1 t1.mag.length c1') ∧ W.cell? ⟨b, off + 6 + 5, none⟩ = some (.slice K1 t1.kids.length d1) ∧ W.cell? ⟨b, off + 12, none⟩ = some (.int .i64 t2.kind) ∧ W.cell? ⟨b, off + 12 + 1, none⟩ = some (.int .i64 t2.pos) ∧ W.cell? ⟨b, off + 12 + 2, none⟩ = some (.string t2.text) ∧ W.cell? ⟨b, off + 12 + 3, none⟩ = some (.bool t2.neg) ∧ W.cell? ⟨b, off + 12 + 4, none⟩ = some (.slice A2 t2.mag.length c2') ∧ W.cell? ⟨b, off + 12 + 5, none⟩ = some (.slice K2 t2.kids.length d2) ∧ b < W.heap.size) (first | (refine HPK _ ?_; (repeat' (first | with_reducible exact H1 | with_reducible exact H0 | with_reducible exact Below.refl _ _ | (with_reducible refine below_drew ?_))))) (first | (go_at_call 99; (with_reducible refine (HS0.out _ ?hbel).mono ?_); (case hbel => (repeat' (first  | with_reducible exact Below.refl _ _ | (with_reducible refine below_drew ?_)))); rintro e w_0 ⟨rfl, hq_0⟩; have H0 := below_then (w1 := w1) hq_0 lq14) | (go_at_call 36; (with_reducible refine (HS1.out _ ?hbel).mono ?_); (case hbel => (repeat' (first | with_reducible exact H0 | with_reducible exact Below.refl _ _ | (with_reducible refine below_drew ?_)))); rintro e w_1 ⟨rfl, hq_1⟩; have H1 := below_then (w1 := w1) hq_1 lq12) )
   all_goals
    obtain ⟨m2_0, m2_1, m2_2, m2_3, m2_4, m2_5⟩ := cl6 H1 n20 n21 n22 n23 n24 n25; have hlm := blt m2_0; obtain ⟨e0, e1, e2, e3, e4, e5⟩ := cl6 H1 c0 c1 c2 c3 c4 c5; have HH := Lh H1; go_wp2_with fail; have hI := HS2.out _ HH.out
    go_at_call 36
    refine hI.mono ?_
    rintro e w_9 ⟨rfl, hb_9⟩; clear hI; go_wp2_with fail; go_ret; exact ⟨by rw [HTX.out]; (try simp only [← ba_app, ba_text, HZ.out]); rfl, hb1.trans ((HH.out.trans (hb_9.mono HH.out.size)).mono hb1.size)⟩
end
end Go.Proofs.YtjefhdlncikhmaaGreatDoor
