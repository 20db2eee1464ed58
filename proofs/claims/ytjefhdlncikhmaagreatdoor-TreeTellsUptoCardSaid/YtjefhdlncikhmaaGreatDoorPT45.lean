/- Joined by a program: Rt10, Rt11, Rt12, Sam1, Sam2, Sam, Cp0. -/
import Derived.Test.YtjefhdlncikhmaaGreatDoorPT42
import Derived.Test.YtjefhdlncikhmaaGreatDoorPT43
import Derived.Test.YtjefhdlncikhmaaGreatDoorPT44
namespace Go.Proofs.YtjefhdlncikhmaaGreatDoor
set_option linter.unusedVariables false
set_option linter.unusedSimpArgs false
set_option maxRecDepth 1000000
set_option maxHeartbeats 16000000
section
open Go.RowKit
open List (length_append length_cons length_nil length_singleton)
theorem rl18 (D : Nat) (hL : RLOk D) (dep : Nat) (hdp : dep + (D + 1) ≤ 1000000) (T : Nd) (A : Option Addr) (c : Nat) (K : Option Addr) (d : Nat) (w : World) (hk : T.kind = 18) (hT : St T) (hD : T.depth ≤ D + 1) (hWt : T.weight ≤ 1000000) (hlen : (T.lin dep).length ≤ 1000000000000) (hN : NodeAt w T A c K d) :
  Calls Tryz.prog 50 #[ndV T A c K d, .int .i64 ((dep : Nat) : Int)] w fun e w' => e = .returned (.string (ba (T.lin dep))) ∧ Below w.heap.size w w' := by
 have hst := (st_at hk (tx := .name) (fm := .dfn) rfl lq28 lq28 lq28).symm.trans hT
 have hdf : defL T.kids = true := (Bool.and_eq_true _ _ ▸ hst).2
 have h1 : 1 ≤ T.kids.length := by simp only [defL, Bool.and_eq_true, decide_eq_true_eq] at hdf; exact hdf.1.1
 obtain ⟨m, hm⟩ : ∃ m, T.kids.length = m + 1 := ⟨T.kids.length - 1, by omega⟩
 obtain ⟨t0, hg0⟩ : ∃ t, T.kids[m]? = some t := ⟨_, gEo⟩
 rw [def_at hm hg0, Bool.and_eq_true] at hdf
 obtain ⟨r0, hpar⟩ := hdf
 obtain ⟨b, off, A0, c0', K0, d0, hKe0, hC0, hN0⟩ := hN.kid hg0
 subst hKe0
 have hdl : T.kids.dropLast = T.kids.take m := by rw [List.dropLast_eq_take, hm]; rfl
 have hd0 := wKM hD hWt t0 (mog hg0)
 have hkd := hN.parts.2.2.2.2.1
 have hgm : gy (T.kids.map Nd.lin) (T.kids.length - 1) (dep + 1) = t0.lin (dep + 1) := by
  unfold gy; rw [hm, Nat.add_sub_cancel]
  simp [List.getD, hg0]
 have o1 : (T.kids.length : Int) - 1 = (m : Int) := by omega
 have o2 : IntKind.i64.wrap ((T.kids.length : Int) - 1) = (m : Int) := by rw [IntKind.wrap_i64]; have := hN.parts.2.2.2.2.2.1; unfold maxLen at this; omega
 have o8 : IntKind.i64.wrap (m : Int) = (m : Int) := by rw [IntKind.wrap_i64]; have := hN.parts.2.2.2.2.2.1; unfold maxLen at this; omega
 have o3 : (0 : Int) ≤ (m : Int) := by omega
 have o4 : (m : Int) ≤ (d : Int) := by omega
 have o5 : (m : Int) < (T.kids.length : Int) := by omega
 have o6 : m ≤ d := by omega
 have o7 : m < T.kids.length := by omega
 have HRP := Lh (fun W (hb : Below w.heap.size w W) => rParams_ok D T.kids T.kids.length m (some ⟨b, off, none⟩) d W rfl hm (hN.parts.2.2.2.2.2.2.2.2.2.later hb) (params_all _ _ hpar) (wKM hD hWt) lq22 hkd hN.parts.2.2.2.2.2.1)
 have hdc : (((dep + 1 : Nat)) : Int) = (dep : Int) + 1 := by omega
 have hdcw : (((dep + 1 : Nat)) : Int) = IntKind.i64.wrap ((dep : Int) + 1) := by rw [IntKind.wrap_i64]; omega
 have htz : T.lin dep = padL dep ++ [100, 101, 102, 32] ++ tx T ++ [40] ++ sepL com ((T.kids.take m).map parL) ++ [41, 58, 10] ++ t0.lin (dep + 1) := by rw [lin_eq]; simp [linOf, hk, hdl, hgm]
 have HTX := Lh htz
 rw [htz] at hlen
 clear htz
 simp only [length_append, length_cons, length_nil] at hlen
 have hl0 : (t0.lin (dep + 1)).length ≤ 1000000000000 := by omega
 have hzy : (ba (sepL com ((T.kids.take m).map parL))).size ≤ 1000000000000 := by rw [ba_size]; omega
 have hz0 : (ba (t0.lin (dep + 1))).size ≤ 1000000000000 := by rw [ba_size]; exact hl0
 have hr0 := (fun W (hb : Below w.heap.size w W) => rWithin_ok D (dep + 1) lq29 hL t0 A0 c0' K0 d0 W (blk_of r0) lq29 hd0.2 hl0 (hN0.later hb))
 simp only [hdcw] at hr0
 have HR0 := Lh hr0
 clear hr0
 have i0 : (0 : Int) < (T.kids.length : Int) := by omega
 have i0' : 0 < T.kids.length := by omega
 have hzx : T.text.size ≤ 1000000 := by have := T.weight_eq; omega
 obtain ⟨z3, z4, z5, z6, z7, z8, z9, z10⟩ := kz8 hk 3 4 5 6 7 8 9 10 rfl
 obtain ⟨z11, z12, z13, z14, z15, z16, z17⟩ := kz7 hk 11 12 13 14 15 16 17 rfl
 have z18 : (T.kind == 18) = true := by rw [hk]; rfl
 have z20 : (T.kind == 20) = false := by rw [hk]; rfl
 obtain ⟨hm1, hm2, hrm, hw32, hk1, hk2, ⟨hk64a, hk64b⟩, ⟨ha64a, ha64b⟩, hts, hKs, HK⟩ := hN.hd
 obtain ⟨hb1, c0, c1, c2, c3, c4, c5⟩ := bxn w T A c (some ⟨b, off, none⟩) d
 obtain ⟨n00, n01, n02, n03, n04, n05⟩ := hC0.later hb1
 have hlk0 := blt n00
 unfold ndV
 clear hKs hN hT hD hWt hrm hw32 hk hlen hts hL hdc hdcw  hg0 hN0 hd0 r0 hst h1 hm hdl hgm hkd hpar
 go_enter Tryz.func50, Tryz.ntmps50
 go_wp2_with fail
 generalize w.alloc (bx T.kind T A c (some ⟨b, off, none⟩) d) = w1 at *
 have hlb1 := blt c0
 have hs0 := fun W (hb : Below w1.heap.size w1 W) => HR0.out W (hb1.trans (hb.mono hb1.size))
 unfold ndV at hs0
 have HS0 := Lh hs0
 clear hs0
 go_loopw [5, 6] (fun sv iv wr => ∃ k : Nat, iv = .int .i64 k ∧ sv = .string (ba (padL k)) ∧ k ≤ dep ∧ w1 = wr) (fun _ iv _ => dep - (intOf iv).toNat)
 case atStart => exact ⟨0, rfl, rfl, Nat.zero_le _, rfl⟩
 case round =>
  obtain ⟨k, rfl, rfl, hkd, rfl⟩ := hrel; have hzk : (ba (padL k)).size ≤ 1000000 := by rw [ba_size, padL_len]; omega
  by_cases hkl : k < dep
  ·exact lv124
  ·have o1 : decide ((k : Int) < (dep : Int)) = false := dFo; have o2 : decide (k < dep) = false := dFa hkl; obtain ⟨Z, hZ⟩ : ∃ Z, ba (padL k) = Z := ⟨_, rfl⟩; have HZ := Lh (show ba (padL dep) = Z by rw [← hZ, show k = dep by omega]); rw [hZ] at hzk ⊢; clear hZ hkl hkd; go_wp2_with fail; obtain ⟨Y, hY⟩ : ∃ Y, ba (sepL com ((T.kids.take m).map parL)) = Y := ⟨_, rfl⟩; rw [hY] at hzy; have hsp := fun W (hb : Below w1.heap.size w1 W) => HRP.out W (hb1.trans (hb.mono hb1.size))
   simp only [hY] at hsp; have HSP := Lh hsp; have HY := Lh hY; clear hsp hY; have hqs0 : ({ data := #[100, 101, 102, 32] } : ByteArray).size = 4 := rfl; have hqs1 : ({ data := #[40] } : ByteArray).size = 1 := rfl; have hqs2 : ({ data := #[41, 58, 10] } : ByteArray).size = 3 := rfl; have had0 := fun (W : World) => run_string_add_sum (P := Tryz.prog) (w := W) (Z) (({ data := #[100, 101, 102, 32] } : ByteArray)) lq18
   have had1 := fun (W : World) => run_string_add_sum (P := Tryz.prog) (w := W) (Z ++ ({ data := #[100, 101, 102, 32] } : ByteArray)) (T.text) lq18
   have had2 := fun (W : World) => run_string_add_sum (P := Tryz.prog) (w := W) (Z ++ ({ data := #[100, 101, 102, 32] } : ByteArray) ++ T.text) (({ data := #[40] } : ByteArray)) lq18
   have had3 := fun (W : World) => run_string_add_sum (P := Tryz.prog) (w := W) (Z ++ ({ data := #[100, 101, 102, 32] } : ByteArray) ++ T.text ++ ({ data := #[40] } : ByteArray)) (Y) lq18
   have had4 := fun (W : World) => run_string_add_sum (P := Tryz.prog) (w := W) (Z ++ ({ data := #[100, 101, 102, 32] } : ByteArray) ++ T.text ++ ({ data := #[40] } : ByteArray) ++ Y) (({ data := #[41, 58, 10] } : ByteArray)) lq18
   have had5 := fun (W : World) => run_string_add_sum (P := Tryz.prog) (w := W) (Z ++ ({ data := #[100, 101, 102, 32] } : ByteArray) ++ T.text ++ ({ data := #[40] } : ByteArray) ++ Y ++ ({ data := #[41, 58, 10] } : ByteArray)) (ba (t0.lin (dep + 1))) lq18
   clear hqs0 hqs1 hqs2; have HPK := fun (W : World) (h : Below w1.heap.size w1 W) => show _ ∧ _ ∧ _ ∧ _ ∧ _ ∧ _ ∧ _ ∧ _ ∧ _ from ⟨cLt h n00, cLt h n01, cLt h n02, cLt h n03, cLt h n04, cLt h n05, cLt h c2, Nat.lt_of_lt_of_le hlk0 h.size, Nat.lt_of_lt_of_le hlb1 h.size⟩
   go_region_held3 (fun W => W.cell? ⟨b, off + m * 6, none⟩ = some (.int .i64 t0.kind) ∧ W.cell? ⟨b, off + m * 6 + 1, none⟩ = some (.int .i64 t0.pos) ∧ W.cell? ⟨b, off + m * 6 + 2, none⟩ = some (.string t0.text) ∧ W.cell? ⟨b, off + m * 6 + 3, none⟩ = some (.bool t0.neg) ∧ W.cell? ⟨b, off + m * 6 + 4, none⟩ = some (.slice A0 t0.mag.length c0') ∧ W.cell? ⟨b, off + m * 6 + 5, none⟩ = some (.slice K0 t0.kids.length d0) ∧ W.cell? ⟨w.heap.size, 2, none⟩ = some (.string T.text) ∧ b < W.heap.size ∧ w.heap.size < W.heap.size) (first | (refine HPK _ ?_; (repeat' (first | with_reducible exact H1 | with_reducible exact H0 | with_reducible exact Below.refl _ _ | (with_reducible refine below_drew ?_))))) (first | (go_at_call 102; (with_reducible refine (HSP.out _ ?hbel).mono ?_); (case hbel => (repeat' (first  | with_reducible exact Below.refl _ _ | (with_reducible refine below_drew ?_)))); rintro e w_0 ⟨rfl, hq_0⟩; have H0 := below_then (w1 := w1) hq_0 lq14) | (go_at_call 36; (with_reducible refine (HS0.out _ ?hbel).mono ?_); (case hbel => (repeat' (first | with_reducible exact H0 | with_reducible exact Below.refl _ _ | (with_reducible refine below_drew ?_)))); rintro e w_1 ⟨rfl, hq_1⟩; have H1 := below_then (w1 := w1) hq_1 lq12) )
   all_goals
    go_wp2; go_ret; exact ⟨by rw [HTX.out]; (try simp only [← ba_app, ba_text, HZ.out, HY.out]); rfl, hb1.trans (H1.mono hb1.size)⟩
theorem rLine_step (D : Nat) (hL : RLOk D) : RLOk (D + 1) := by
 intro dep hdp T A c K d w hT hD hWt hlen hN
 have hr : 3 ≤ T.kind ∧ T.kind ≤ 21 ∧ ¬ T.kind = 19 := by
  simp only [St, Sh.ev, Bool.and_eq_true, decide_eq_true_eq, Bool.not_eq_true', beq_eq_false_iff_ne, ne_eq] at hT; exact ⟨hT.1.1.1, hT.1.1.2, hT.1.2⟩
 by_cases h3 : T.kind = 3
 ·exact rl3 D hL dep hdp T A c K d w h3 hT hD hWt hlen hN
 by_cases h4 : T.kind = 4
 ·exact rl4 D hL dep hdp T A c K d w h4 hT hD hWt hlen hN
 by_cases h5 : T.kind = 5
 ·exact rl5 D hL dep hdp T A c K d w h5 hT hD hWt hlen hN
 by_cases h6 : T.kind = 6
 ·exact rl6 D hL dep hdp T A c K d w h6 hT hD hWt hlen hN
 by_cases h7 : T.kind = 7
 ·exact rl7 D hL dep hdp T A c K d w h7 hT hD hWt hlen hN
 by_cases h8 : T.kind = 8
 ·exact rl8 D hL dep hdp T A c K d w h8 hT hD hWt hlen hN
 by_cases h9 : T.kind = 9
 ·exact rl9 D hL dep hdp T A c K d w h9 hT hD hWt hlen hN
 by_cases h10 : T.kind = 10
 ·exact rl10 D hL dep hdp T A c K d w h10 hT hD hWt hlen hN
 by_cases h11 : T.kind = 11
 ·exact rl11 D hL dep hdp T A c K d w h11 hT hD hWt hlen hN
 by_cases h12 : T.kind = 12
 ·exact rl12 D hL dep hdp T A c K d w h12 hT hD hWt hlen hN
 by_cases h13 : T.kind = 13
 ·exact rl13 D hL dep hdp T A c K d w h13 hT hD hWt hlen hN
 by_cases h14 : T.kind = 14
 ·exact rl14 D hL dep hdp T A c K d w h14 hT hD hWt hlen hN
 by_cases h15 : T.kind = 15
 ·by_cases hq : ∀ t, T.kids[2]? = some t → t.kind = 0
  ·exact rl15z D hL dep hdp T A c K d w h15 hq hT hD hWt hlen hN
  ·refine rl15b D hL dep hdp T A c K d w h15 (fun t ht h0 => hq (fun t' ht' => ?_)) hT hD hWt hlen hN
   rw [ht] at ht'; injection ht' with e; rw [← e]; exact h0
 by_cases h16 : T.kind = 16
 ·exact rl16 D hL dep hdp T A c K d w h16 hT hD hWt hlen hN
 by_cases h17 : T.kind = 17
 ·exact rl17 D hL dep hdp T A c K d w h17 hT hD hWt hlen hN
 by_cases h18 : T.kind = 18
 ·exact rl18 D hL dep hdp T A c K d w h18 hT hD hWt hlen hN
 by_cases h20 : T.kind = 20
 ·by_cases hq : ∀ t, T.kids[0]? = some t → t.kind = 0
  ·exact rl20z D hL dep hdp T A c K d w h20 hq hT hD hWt hlen hN
  ·refine rl20e D hL dep hdp T A c K d w h20 (fun t ht h0 => hq (fun t' ht' => ?_)) hT hD hWt hlen hN
   rw [ht] at ht'; injection ht' with e; rw [← e]; exact h0
 exact rl21 D hL dep hdp T A c K d w lq29 hT hD hWt hlen hN
theorem rLine_ok : ∀ D, RLOk D := by
 intro D
 induction D with
 | zero => intro dep _ T A c K d w _ hD; rw [T.depth_eq] at hD; omega
 | succ D ih => exact rLine_step D ih
theorem rPrint_ok (T : Nd) (A : Option Addr) (c : Nat) (K : Option Addr) (d : Nat) (w : World) (hN : NodeAt w T A c K d) (hW : T.weight ≤ 1000000) :
  Calls Tryz.prog 17 #[ndV T A c K d] w fun e w' => e = .returned (.string (prt T)) ∧ Below w.heap.size w w' := by
 have HCh := Lh (fun W (hb : Below w.heap.size w W) => by
  have := rCheck_ok T A c K d W (hN.later hb) hW; unfold ndV at this
  exact this)
 by_cases hc : chk T = 0
 ·obtain ⟨t0, hks, h2⟩ := mod_kid hc; have hpr : prt T = ba (t0.lin 0) := by rw [prt, if_pos hc, printL, hks]; rfl
  have HPR := Lh hpr; have HCZ := Lh hc; have hdp := (chk_zero hc).1; have hg0 : T.kids[0]? = some t0 := by rw [hks]; rfl
  obtain ⟨b, off, A0, c0', K0, d0, hKe0, hC0, hN0⟩ := hN.kid hg0; rw [Nat.zero_mul, Nat.add_zero] at hC0; subst hKe0; have htd := Nd.depth_kid (mog hg0); have htw := Nd.weight_kid (mog hg0); have hlen : (t0.lin 0).length ≤ 1000000000000 := by
   exact lv176
  have hbk := fun W (hb : Below w.heap.size w W) => rWithin_ok 300 0 lq29 (rLine_ok 300) t0 A0 c0' K0 d0 W h2 lq29 lq29 hlen (hN0.later hb)
  simp only [show (((0 : Nat)) : Int) = (0 : Int) from rfl] at hbk; have HBK := Lh hbk; clear hbk; have HN0 := Lh hN0; have HLe := Lh hlen; have i0 : (0 : Int) < (T.kids.length : Int) := by rw [hks]; simp
  have i0' : 0 < T.kids.length := by rw [hks]; simp
  have hCq := hC0; have hbl : b < w.heap.size := blt hC0.1; clear hpr hc hdp hg0 htd htw hlen hN0 h2 hks; obtain ⟨hm1, hm2, hrm, hw32, hk1, hk2, ⟨hk64a, hk64b⟩, ⟨ha64a, ha64b⟩, hts, hKs, HK⟩ := hN.hd; obtain ⟨hb1, c0, c1, c2, c3, c4, c5⟩ := bxn w T A c (some ⟨b, off, none⟩) d; unfold ndV; clear hKs hN; go_enter Tryz.func17, Tryz.ntmps17; go_wp2_with fail
  go_at_call 14
  refine (HCh.out _ hb1).mono ?_
  rintro e w3 ⟨he3, hb3⟩; rw [HCZ.out] at he3; subst he3; have hw3 := hb1.trans (hb3.mono hb1.size); obtain ⟨n0, n1, n2, n3, n4, n5⟩ := hCq.later hw3; have d5 := cLt hb3 c5; have hl3 := blt d5; have hbl3 := blt n0; have hI := HBK.out w3 hw3; unfold ndV at hI; go_wp2_with fail
  go_at_call 36
  refine hI.mono ?_
  rintro e w4 ⟨rfl, hb4⟩; clear hI; go_wp2_with fail; go_ret; exact ⟨by rw [HPR.out]; rfl, hw3.trans (hb4.mono hw3.size)⟩
 ·have HPR := Lh (show prt T = ba [] by rw [prt, if_neg hc]); have q0 : ((chk T : Int) == 0) = false := beq_eq_false_iff_ne.2 hc; have q1 : ((chk T : Int) != 0) = true := by rw [bne, q0]; rfl
  obtain ⟨hm1, hm2, hrm, hw32, hk1, hk2, ⟨hk64a, hk64b⟩, ⟨ha64a, ha64b⟩, hts, hKs, HK⟩ := hN.hd; obtain ⟨hb1, c0, c1, c2, c3, c4, c5⟩ := bxn w T A c K d; unfold ndV; clear hKs hN hc; go_enter Tryz.func17, Tryz.ntmps17; go_wp2_with fail
  go_at_call 14
  refine (HCh.out _ hb1).mono ?_
  rintro e w3 ⟨rfl, hb3⟩; go_wp2_with fail; go_ret; exact ⟨by rw [HPR.out]; rfl, hb1.trans (hb3.mono hb1.size)⟩
theorem same_f (T : Nd) (p : Int) (L : List Nd) (hL : L.length = T.kids.length) (hI : ∀ (i : Nat) (s t : Nd), L[i]? = some s → T.kids[i]? = some t → ∀ (A1 : Option Addr) (c1 : Nat) (K1 : Option Addr) (d1 : Nat) (A : Option Addr) (c : Nat) (K : Option Addr) (d : Nat) (w : World), NodeAt w s A1 c1 K1 d1 → NodeAt w t A c K d → Calls Tryz.prog 18 #[ndV s A1 c1 K1 d1, ndV t A c K d, .bool false] w fun e w' => e = .returned (.bool true) ∧ Below w.heap.size w w')
  (A1 : Option Addr) (c1 : Nat) (K1 : Option Addr) (d1 : Nat) (A : Option Addr) (c : Nat) (K : Option Addr) (d : Nat) (w : World) (hr1 : RdI w .u32 A1 T.mag) (hk0 : KidsAt w L K1 0) (hN : NodeAt w T A c K d) (hc1 : T.mag.length ≤ c1) (hc2 : c1 ≤ maxLen) (hd1 : T.kids.length ≤ d1) (hd2 : d1 ≤ maxLen) (hpl : I64 p) :
  Calls Tryz.prog 18 #[.agg #[.int .i64 T.kind, .int .i64 p, .string T.text, .bool T.neg, .slice A1 T.mag.length c1, .slice K1 T.kids.length d1], ndV T A c K d, .bool false] w fun e w' => e = .returned (.bool true) ∧ Below w.heap.size w w' := by
 obtain ⟨hm1, hm2, hrm, hw32, hk1, hk2, hk64, ha64, hts, hKs⟩ := hN.parts
 unfold maxLen at hm2 hk2 hts hc2 hd2
 obtain ⟨hpl1, hpl2⟩ := hpl
 obtain ⟨hk64a, hk64b⟩ := hk64
 obtain ⟨ha64a, ha64b⟩ := ha64
 have hb0 := (Below.refl w.heap.size w).alloc (Nat.le_refl _) (.cells #[.int .i64 T.kind, .int .i64 p, .string T.text, .bool T.neg, .slice A1 T.mag.length c1, .slice K1 T.kids.length d1] 27)
 have hb1 := hb0.alloc hb0.size (bx T.kind T A c K d)
 have x0 := heap_alloc_new w (.cells #[.int .i64 T.kind, .int .i64 p, .string T.text, .bool T.neg, .slice A1 T.mag.length c1, .slice K1 T.kids.length d1] 27)
 have hlx : w.heap.size < (w.alloc (.cells #[.int .i64 T.kind, .int .i64 p, .string T.text, .bool T.neg, .slice A1 T.mag.length c1, .slice K1 T.kids.length d1] 27)).heap.size := by simp
 have x1 := (Lib.alloc_old _ (bx T.kind T A c K d) _ hlx).trans x0
 have x2 := heap_alloc_new (w.alloc (.cells #[.int .i64 T.kind, .int .i64 p, .string T.text, .bool T.neg, .slice A1 T.mag.length c1, .slice K1 T.kids.length d1] 27)) (bx T.kind T A c K d)
 have hsg : (w.alloc (.cells #[.int .i64 T.kind, .int .i64 p, .string T.text, .bool T.neg, .slice A1 T.mag.length c1, .slice K1 T.kids.length d1] 27)).heap.size = w.heap.size + 1 := by simp
 rw [hsg] at x2
 obtain ⟨e0, e1, e2, e3, e4, e5⟩ := (cells_box (T := .mk T.kind p T.text T.neg T.mag T.kids) x1).box
 change _ = some (Value.int .i64 T.kind) at e0
 change _ = some (Value.int .i64 p) at e1
 change _ = some (Value.string T.text) at e2
 change _ = some (Value.bool T.neg) at e3
 change _ = some (Value.slice A1 T.mag.length c1) at e4
 change _ = some (Value.slice K1 T.kids.length d1) at e5
 obtain ⟨c0, c1', c2', c3, c4, c5⟩ := (cells_box x2).box
 have HR1 := Lh hr1
 have HR2 := Lh hrm
 have HI := Lh hI
 have HL := Lh hL
 have HK1 := Lh hk0
 have HK2 := Lh hKs
 clear hI hL hk0 hN hrm hr1 hw32 hKs x0 hlx x1 x2 hb0 hsg
 unfold ndV
 go_enter Tryz.func18, Tryz.ntmps18
 go_wp2_with fail
 generalize (w.alloc (.cells #[.int .i64 T.kind, .int .i64 p, .string T.text, .bool T.neg, .slice A1 T.mag.length c1, .slice K1 T.kids.length d1] 27)).alloc (bx T.kind T A c K d) = w2 at *
 exact lv3
theorem same_t (T : Nd) (L : List Nd) (hL : L.length = T.kids.length) (hI : ∀ (i : Nat) (s t : Nd), L[i]? = some s → T.kids[i]? = some t → ∀ (A1 : Option Addr) (c1 : Nat) (K1 : Option Addr) (d1 : Nat) (A : Option Addr) (c : Nat) (K : Option Addr) (d : Nat) (w : World), NodeAt w s A1 c1 K1 d1 → NodeAt w t A c K d → Calls Tryz.prog 18 #[ndV s A1 c1 K1 d1, ndV t A c K d, .bool true] w fun e w' => e = .returned (.bool true) ∧ Below w.heap.size w w')
  (A1 : Option Addr) (c1 : Nat) (K1 : Option Addr) (d1 : Nat) (A : Option Addr) (c : Nat) (K : Option Addr) (d : Nat) (w : World) (hr1 : RdI w .u32 A1 T.mag) (hk0 : KidsAt w L K1 0) (hN : NodeAt w T A c K d) (hc1 : T.mag.length ≤ c1) (hc2 : c1 ≤ maxLen) (hd1 : T.kids.length ≤ d1) (hd2 : d1 ≤ maxLen) (hpl : I64 T.pos) :
  Calls Tryz.prog 18 #[.agg #[.int .i64 T.kind, .int .i64 T.pos, .string T.text, .bool T.neg, .slice A1 T.mag.length c1, .slice K1 T.kids.length d1], ndV T A c K d, .bool true] w fun e w' => e = .returned (.bool true) ∧ Below w.heap.size w w' := by
 obtain ⟨hm1, hm2, hrm, hw32, hk1, hk2, hk64, ha64, hts, hKs⟩ := hN.parts
 unfold maxLen at hm2 hk2 hts hc2 hd2
 obtain ⟨hpl1, hpl2⟩ := hpl
 obtain ⟨hk64a, hk64b⟩ := hk64
 obtain ⟨ha64a, ha64b⟩ := ha64
 have hb0 := (Below.refl w.heap.size w).alloc (Nat.le_refl _) (.cells #[.int .i64 T.kind, .int .i64 T.pos, .string T.text, .bool T.neg, .slice A1 T.mag.length c1, .slice K1 T.kids.length d1] 27)
 have hb1 := hb0.alloc hb0.size (bx T.kind T A c K d)
 have x0 := heap_alloc_new w (.cells #[.int .i64 T.kind, .int .i64 T.pos, .string T.text, .bool T.neg, .slice A1 T.mag.length c1, .slice K1 T.kids.length d1] 27)
 have hlx : w.heap.size < (w.alloc (.cells #[.int .i64 T.kind, .int .i64 T.pos, .string T.text, .bool T.neg, .slice A1 T.mag.length c1, .slice K1 T.kids.length d1] 27)).heap.size := by simp
 have x1 := (Lib.alloc_old _ (bx T.kind T A c K d) _ hlx).trans x0
 have x2 := heap_alloc_new (w.alloc (.cells #[.int .i64 T.kind, .int .i64 T.pos, .string T.text, .bool T.neg, .slice A1 T.mag.length c1, .slice K1 T.kids.length d1] 27)) (bx T.kind T A c K d)
 have hsg : (w.alloc (.cells #[.int .i64 T.kind, .int .i64 T.pos, .string T.text, .bool T.neg, .slice A1 T.mag.length c1, .slice K1 T.kids.length d1] 27)).heap.size = w.heap.size + 1 := by simp
 rw [hsg] at x2
 obtain ⟨e0, e1, e2, e3, e4, e5⟩ := (cells_box (T := .mk T.kind T.pos T.text T.neg T.mag T.kids) x1).box
 change _ = some (Value.int .i64 T.kind) at e0
 change _ = some (Value.int .i64 T.pos) at e1
 change _ = some (Value.string T.text) at e2
 change _ = some (Value.bool T.neg) at e3
 change _ = some (Value.slice A1 T.mag.length c1) at e4
 change _ = some (Value.slice K1 T.kids.length d1) at e5
 obtain ⟨c0, c1', c2', c3, c4, c5⟩ := (cells_box x2).box
 have HR1 := Lh hr1
 have HR2 := Lh hrm
 have HI := Lh hI
 have HL := Lh hL
 have HK1 := Lh hk0
 have HK2 := Lh hKs
 clear hI hL hk0 hN hrm hr1 hw32 hKs x0 hlx x1 x2 hb0 hsg
 unfold ndV
 go_enter Tryz.func18, Tryz.ntmps18
 go_wp2_with fail
 generalize (w.alloc (.cells #[.int .i64 T.kind, .int .i64 T.pos, .string T.text, .bool T.neg, .slice A1 T.mag.length c1, .slice K1 T.kids.length d1] 27)).alloc (bx T.kind T A c K d) = w2 at *
 exact lv3
theorem same_ok (ts : Bool) : ∀ (D : Nat) (S T : Nd), Alike ts S T → S.depth ≤ D → ∀ (A1 : Option Addr) (c1 : Nat) (K1 : Option Addr) (d1 : Nat) (A : Option Addr) (c : Nat) (K : Option Addr) (d : Nat) (w : World), NodeAt w S A1 c1 K1 d1 → NodeAt w T A c K d →
  Calls Tryz.prog 18 #[ndV S A1 c1 K1 d1, ndV T A c K d, .bool ts] w fun e w' => e = .returned (.bool true) ∧ Below w.heap.size w w'
 | 0, S, T, _, hD => absurd hD (by have := S.depth_eq; omega)
 | D + 1, S, T, hA, hD => by
  intro A1 c1 K1 d1 A c K d w hS hT; obtain ⟨h1, h2, h3, h4, h5, h6, h7⟩ := hA.parts; obtain ⟨g1, g2, g3, g4, g5, g6, g7, g8, g9, g10⟩ := hS.parts; have hI := fun (i : Nat) (s t : Nd) (hs : S.kids[i]? = some s) (ht : T.kids[i]? = some t) => same_ok ts D s t (h7 i s t hs ht) (by have := Nd.depth_kid (mog hs); omega)
  rw [h4] at g1 g3; rw [h6] at g5
  cases ts with
  | false =>
   have := same_f T S.pos S.kids h6 hI A1 c1 K1 d1 A c K d w g3 g10 hT g1 g2 g5 g6 g8; unfold ndV at this ⊢; rw [h1, h2, h3, h4, h6]; exact this
  | true =>
   have h5 := h5 rfl; rw [h5] at g8; have := same_t T S.kids h6 hI A1 c1 K1 d1 A c K d w g3 g10 hT g1 g2 g5 g6 g8; unfold ndV at this ⊢; rw [h1, h2, h3, h4, h5, h6]; exact this
def Far (base : Nat) (g : Option Nat) (w : World) (T : Nd) (A : Option Addr) (c : Nat) (K : Option Addr) (d : Nat) : Prop :=
 ∀ W : World, (∀ k, base ≤ k → k < w.heap.size → some k ≠ g → W.heap[k]? = w.heap[k]?) → NodeAt W T A c K d
theorem Far.now {base : Nat} {g : Option Nat} {w : World} {T : Nd} {A : Option Addr} {c : Nat} {K : Option Addr} {d : Nat} (h : Far base g w T A c K d) : NodeAt w T A c K d := h w fun _ _ _ _ => rfl
theorem Far.turned {base : Nat} {g g' : Option Nat} {w w' : World} {T : Nd} {A : Option Addr} {c : Nat} {K : Option Addr} {d : Nat} (h : Far base g w T A c K d) (hs : w.heap.size ≤ w'.heap.size) (he : ∀ k, base ≤ k → k < w.heap.size → some k ≠ g → w'.heap[k]? = w.heap[k]? ∧ some k ≠ g') : Far base g' w' T A c K d := fun W hW =>
 h W fun k h1 h2 h3 => by
  obtain ⟨e1, e2⟩ := he k h1 h2 h3; rw [hW k h1 lq29 e2, e1]
theorem Far.later {base : Nat} {g : Option Nat} {w w' : World} {T : Nd} {A : Option Addr} {c : Nat} {K : Option Addr} {d : Nat} (h : Far base g w T A c K d) (hb : Below w.heap.size w w') : Far base g w' T A c K d :=
 h.turned hb.size fun k _ h2 h3 => ⟨hb.5 k h2, h3⟩
theorem Far.mono {base base' : Nat} {g : Option Nat} {w : World} {T : Nd} {A : Option Addr} {c : Nat} {K : Option Addr} {d : Nat} (h : Far base g w T A c K d) (hb : base' ≤ base) : Far base' g w T A c K d := fun W hW =>
 h W fun k h1 h2 h3 => hW k (Nat.le_trans hb h1) h2 h3
theorem far_grown {base : Nat} {v v' : Value} {w w' : World} {T : Nd} {A : Option Addr} {c : Nat} {K : Option Addr} {d : Nat} (h : Far base v.ownBlock w T A c K d) (hg : w.grownBy w' v.ownBlock) (hat : v'.ownBlock = v.ownBlock ∨ v'.ownBlock = some w.heap.size) : Far base v'.ownBlock w' T A c K d :=
 h.turned hg.size fun k _ h2 h3 => ⟨hg.block k h2 h3, by
  rcases hat with e | e
  ·rw [e]; exact h3
  ·rw [e]; intro e; injection e with e; omega⟩
theorem own_agree {w W : World} {base size n : Nat} {e : TypeId} {v : Value} {xs : List Value} (h : w.ownsRow base e size v n xs) (hW : ∀ k, base ≤ k → k < w.heap.size → W.heap[k]? = w.heap[k]?) : W.ownsRow base e size v n xs := by
 refine ⟨h.1, ?_⟩
 rcases h.2 with h2 | ⟨g, cap, cur, hv, hg, hh, hr⟩
 ·exact .inl h2
 ·exact .inr ⟨g, cap, cur, hv, hg, (hW g hg (Array.getElem?_eq_some_iff.1 hh).1).trans hh, hr⟩
theorem own_laterT {w w' : World} {base size n : Nat} {e : TypeId} {v : Value} {xs : List Value} (h : w.ownsRow base e size v n xs) (hb : Below w.heap.size w w') : w'.ownsRow base e size v n xs := own_agree h fun k _ h2 => hb.5 k h2
theorem own_formN {w : World} {base size : Nat} {e : TypeId} {v : Value} {n : Nat} {xs : List Value} (h : w.ownsRow base e size v n xs) : ∃ A c, v = .slice A n c ∧ n ≤ c ∧ c ≤ maxLen := by
 rcases h.2 with ⟨rfl, rfl⟩ | ⟨g, cap, cur, rfl, _, _, h1, h2, _⟩
 ·exact ⟨none, 0, rfl, Nat.le_refl _, Nat.zero_le _⟩
 ·exact ⟨_, cap, rfl, h1, h2⟩
def ndC (T : Nd) (A : Option Addr) (c : Nat) (K : Option Addr) (d : Nat) : List Value := [.int .i64 T.kind, .int .i64 T.pos, .string T.text, .bool T.neg, .slice A T.mag.length c, .slice K T.kids.length d]
def RowN (base : Nat) (g : Option Nat) (w : World) (ts : List Nd) (xs : List Value) : Prop :=
 xs.length = ts.length * 6 ∧ ∀ i t, ts[i]? = some t → ∃ A c K d, (∀ j, j < 6 → xs[i * 6 + j]? = (ndC t A c K d)[j]?) ∧ Far base g w t A c K d
theorem RowN.nil (base : Nat) (g : Option Nat) (w : World) : RowN base g w [] [] := ⟨rfl, fun i t h => by simp at h⟩
theorem RowN.later {base : Nat} {g : Option Nat} {w w' : World} {ts : List Nd} {xs : List Value} (h : RowN base g w ts xs) (hb : Below w.heap.size w w') : RowN base g w' ts xs :=
 ⟨h.1, fun i t hi => by obtain ⟨A, c, K, d, h1, h2⟩ := h.2 i t hi; exact ⟨A, c, K, d, h1, h2.later hb⟩⟩
theorem RowN.grown {base : Nat} {v v' : Value} {w w' : World} {ts : List Nd} {xs : List Value} (h : RowN base v.ownBlock w ts xs) (hg : w.grownBy w' v.ownBlock) (hat : v'.ownBlock = v.ownBlock ∨ v'.ownBlock = some w.heap.size) : RowN base v'.ownBlock w' ts xs :=
 ⟨h.1, fun i t hi => by obtain ⟨A, c, K, d, h1, h2⟩ := h.2 i t hi; exact ⟨A, c, K, d, h1, far_grown h2 hg hat⟩⟩
theorem RowN.snoc {base : Nat} {g : Option Nat} {w : World} {ts : List Nd} {xs : List Value} {t : Nd} {A : Option Addr} {c : Nat} {K : Option Addr} {d : Nat} (h : RowN base g w ts xs) (ht : Far base g w t A c K d) : RowN base g w (ts ++ [t]) (xs ++ ndC t A c K d) := by
 refine ⟨by rw [length_append, length_append, h.1]; simp [ndC]; omega, fun i s hi => ?_⟩
 by_cases hl : i < ts.length
 ·rw [List.getElem?_append_left hl] at hi; obtain ⟨A', c', K', d', h1, h2⟩ := h.2 i s hi
  refine ⟨A', c', K', d', fun j hj => ?_, h2⟩
  rw [List.getElem?_append_left (by rw [h.1]; omega)]; exact h1 j hj
 ·have hi2 : i = ts.length := by
   have := (List.getElem?_eq_some_iff.1 hi).1; rw [length_append] at this
   simp at this
   omega
  subst hi2; rw [List.getElem?_concat_length] at hi; injection hi with hi
  subst hi
  refine ⟨A, c, K, d, fun j hj => ?_, ht⟩
  rw [List.getElem?_append_right (by rw [h.1]; omega), h.1, show ts.length * 6 + j - ts.length * 6 = j by omega]
theorem RowN.kids {base : Nat} {w : World} {v : Value} {ts : List Nd} {xs : List Value} {e : TypeId} {A : Option Addr} {c : Nat} (h : RowN base v.ownBlock w ts xs) (ho : w.ownsRow base e 6 v ts.length xs) (hv : v = .slice A ts.length c) {W : World} (hW : ∀ k, base ≤ k → k < w.heap.size → W.heap[k]? = w.heap[k]?) : KidsAt W ts A 0 := by
 have ho2 := own_agree ho hW
 refine KidsAt.of fun i t hi => ?_
 obtain ⟨A', c', K', d', h1, h2⟩ := h.2 i t hi
 rcases ho.2 with ⟨_, h0⟩ | ⟨g, cap, cur, hg, hg2, _⟩
 ·have := (List.getElem?_eq_some_iff.1 hi).1; omega
 ·have hA : A = some ⟨g, 0, none⟩ := by rw [hg] at hv; injection hv with hv; exact hv.symm
  have hc : ∀ j u, xs[j]? = some u → W.cell? ⟨g, j, none⟩ = some u := fun j u hj => by
   have := ho2.cells (g := g) (by rw [hg]; rfl) j u hj; rw [Addr.add_lit, Nat.zero_add] at this; exact this
  refine ⟨g, 0, A', c', K', d', hA, ?_, h2 W fun k h1 h2 _ => hW k h1 h2⟩
  rw [Nat.zero_add, Nat.zero_add]; exact ⟨hc _ _ (h1 0 lq28), hc _ _ (h1 1 lq28), hc _ _ (h1 2 lq28), hc _ _ (h1 3 lq28), hc _ _ (h1 4 lq28), hc _ _ (h1 5 lq28)⟩
end
end Go.Proofs.YtjefhdlncikhmaaGreatDoor
