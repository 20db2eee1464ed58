/- Joined by a program: Rt7d, Rt8, Rt9. -/
import Derived.Test.YtjefhdlncikhmaaGreatDoorPT41
namespace Go.Proofs.YtjefhdlncikhmaaGreatDoor
set_option linter.unusedVariables false
set_option linter.unusedSimpArgs false
set_option maxRecDepth 1000000
set_option maxHeartbeats 16000000
section
open Go.RowKit
open List (length_append length_cons length_nil length_singleton)
section
variable (D : Nat) (hL : RLOk D) (dep : Nat) (hdp : dep + (D + 1) ≤ 1000000) (T : Nd) (A : Option Addr) (c : Nat) (K : Option Addr) (d : Nat) (w : World) (hk : T.kind = 20)
include D hL dep hdp T A c K d w hk
theorem rl20z (hv : ∀ t, T.kids[0]? = some t → t.kind = 0) (hT : St T) (hD : T.depth ≤ D + 1) (hWt : T.weight ≤ 1000000) (hlen : (T.lin dep).length ≤ 1000000000000) (hN : NodeAt w T A c K d) :
  Calls Tryz.prog 50 #[ndV T A c K d, .int .i64 ((dep : Nat) : Int)] w fun e w' => e = .returned (.string (ba (T.lin dep))) ∧ Below w.heap.size w w' := by
 have _ := hdp
 have hst : (Tx.name.ev T.text && noNumB T && rowB T.kids [Sh.ev Nd.right (.or2 .none .expr), Sh.ev Nd.right .block]) = true := by
  exact lv164
 have hro : rowB T.kids [Sh.ev Nd.right (.or2 .none .expr), Sh.ev Nd.right .block] = true := (Bool.and_eq_true _ _ ▸ hst).2
 have hlen3 : T.kids.length = 2 := row_len hro
 obtain ⟨t0, t1, hks⟩ := kids_2 (l := T.kids) hlen3
 rw [hks] at hro
 simp only [rowB, Bool.and_eq_true, Bool.and_true] at hro
 obtain ⟨r0, r1⟩ := hro
 have hg0 : T.kids[0]? = some t0 := by rw [hks]; rfl
 obtain ⟨b, off, A0, c0', K0, d0, hKe0, hC0, hN0⟩ := hN.kid hg0
 have hd0 : t0.depth ≤ D ∧ t0.weight ≤ 1000000 := wKM hD hWt t0 (mog hg0)
 have hg1 : T.kids[1]? = some t1 := by rw [hks]; rfl
 obtain ⟨b1, off1, A1, c1', K1, d1, hKe1, hC1, hN1⟩ := hN.kid hg1
 have hd1 : t1.depth ≤ D ∧ t1.weight ≤ 1000000 := wKM hD hWt t1 (mog hg1)
 rw [Nat.zero_mul, Nat.add_zero] at hC0
 subst hKe0
 injection hKe1 with e1
 injection e1 with e1 e2
 subst e1 e2
 rw [show 1 * 6 = 6 from rfl] at hC1
 have hv0 := hv t0 hg0
 have q0 : (t0.kind == 0) = true := by rw [hv0]; rfl
 have q0' : (t0.kind != 0) = false := by rw [bne, q0]; rfl
 have hdc : (((dep + 1 : Nat)) : Int) = (dep : Int) + 1 := by omega
 have hdcw : (((dep + 1 : Nat)) : Int) = IntKind.i64.wrap ((dep : Int) + 1) := by rw [IntKind.wrap_i64]; omega
 have htz : T.lin dep = padL dep ++ [99, 108, 97, 115, 115, 32] ++ tx T ++ [58, 10] ++ t1.lin (dep + 1) := by rw [lin_eq]; simp [linOf, hk, kd, gy, hks, hv0]
 have HTX := Lh htz
 rw [htz] at hlen
 clear htz
 simp only [length_append, length_cons, length_nil] at hlen
 have hl1 : (t1.lin (dep + 1)).length ≤ 1000000000000 := by omega
 have i0 : (0 : Int) < (T.kids.length : Int) := by omega
 have i0' : 0 < T.kids.length := by omega
 have hz1 : (ba (t1.lin (dep + 1))).size ≤ 1000000000000 := by rw [ba_size]; exact hl1
 have hr1 := (fun W (hb : Below w.heap.size w W) => rWithin_ok D (dep + 1) lq29 hL t1 A1 c1' K1 d1 W (blk_of r1) lq29 hd1.2 hl1 (hN1.later hb))
 simp only [hdc] at hr1
 have HR1 := Lh hr1
 clear hr1
 have i1 : (1 : Int) < (T.kids.length : Int) := by omega
 have i1' : 1 < T.kids.length := by omega
 have hzx : T.text.size ≤ 1000000 := by have := T.weight_eq; omega
 obtain ⟨z3, z4, z5, z6, z7, z8, z9, z10⟩ := kz8 hk 3 4 5 6 7 8 9 10 rfl
 obtain ⟨z11, z12, z13, z14, z15, z16, z17, z18⟩ := kz8 hk 11 12 13 14 15 16 17 18 rfl
 have z20 : (T.kind == 20) = true := by rw [hk]; rfl
 obtain ⟨hm1, hm2, hrm, hw32, hk1, hk2, ⟨hk64a, hk64b⟩, ⟨ha64a, ha64b⟩, hts, hKs, HK⟩ := hN.hd
 obtain ⟨hb1, c0, c1, c2, c3, c4, c5⟩ := bxn w T A c (some ⟨b, off, none⟩) d
 obtain ⟨n00, n01, n02, n03, n04, n05⟩ := hC0.later hb1
 have hlk0 := blt n00
 obtain ⟨n10, n11, n12, n13, n14, n15⟩ := hC1.later hb1
 have hlk1 := blt n10
 unfold ndV
 clear hKs hN hT hD hWt hrm hw32 hk hlen hts hL hdc hdcw hst hlen3 hks hg0 hN0 hd0 r0 hg1 hN1 hd1 r1 hv hv0
 go_enter Tryz.func50, Tryz.ntmps50
 go_wp2_with fail
 generalize w.alloc (bx T.kind T A c (some ⟨b, off, none⟩) d) = w1 at *
 have hlb1 := blt c0
 have hs1 := fun W (hb : Below w1.heap.size w1 W) => HR1.out W (hb1.trans (hb.mono hb1.size))
 unfold ndV at hs1
 have HS1 := Lh hs1
 clear hs1
 go_loopw [5, 6] (fun sv iv wr => ∃ k : Nat, iv = .int .i64 k ∧ sv = .string (ba (padL k)) ∧ k ≤ dep ∧ w1 = wr) (fun _ iv _ => dep - (intOf iv).toNat)
 case atStart => exact ⟨0, rfl, rfl, Nat.zero_le _, rfl⟩
 case round =>
  obtain ⟨k, rfl, rfl, hkd, rfl⟩ := hrel; have hzk : (ba (padL k)).size ≤ 1000000 := by rw [ba_size, padL_len]; omega
  by_cases hkl : k < dep
  ·exact lv124
  ·have o1 : decide ((k : Int) < (dep : Int)) = false := dFo; have o2 : decide (k < dep) = false := dFa hkl; obtain ⟨Z, hZ⟩ : ∃ Z, ba (padL k) = Z := ⟨_, rfl⟩; have HZ := Lh (show ba (padL dep) = Z by rw [← hZ, show k = dep by omega]); rw [hZ] at hzk ⊢; clear hZ hkl hkd; go_wp2_with fail; have hI := HS1.out _ (Below.refl _ _)
   go_at_call 36
   refine hI.mono ?_
   rintro e w_1 ⟨rfl, hb_1⟩; clear hI; have hB_1 := hb_1; obtain ⟨c0, c1, c2, c3, c4, c5⟩ := cl6 hb_1 c0 c1 c2 c3 c4 c5; obtain ⟨n00, n01, n02, n03, n04, n05⟩ := cl6 hb_1 n00 n01 n02 n03 n04 n05; obtain ⟨n10, n11, n12, n13, n14, n15⟩ := cl6 hb_1 n10 n11 n12 n13 n14 n15; go_wp2_with fail; go_ret; exact ⟨by rw [HTX.out]; (try simp only [← ba_app, ba_text, HZ.out]); rfl, hb1.trans (hB_1.mono hb1.size)⟩
theorem rl20e (hv : ∀ t, T.kids[0]? = some t → ¬ t.kind = 0) (hT : St T) (hD : T.depth ≤ D + 1) (hWt : T.weight ≤ 1000000) (hlen : (T.lin dep).length ≤ 1000000000000) (hN : NodeAt w T A c K d) :
  Calls Tryz.prog 50 #[ndV T A c K d, .int .i64 ((dep : Nat) : Int)] w fun e w' => e = .returned (.string (ba (T.lin dep))) ∧ Below w.heap.size w w' := by
 have _ := hdp
 have hst : (Tx.name.ev T.text && noNumB T && rowB T.kids [Sh.ev Nd.right (.or2 .none .expr), Sh.ev Nd.right .block]) = true := by
  exact lv164
 have hro : rowB T.kids [Sh.ev Nd.right (.or2 .none .expr), Sh.ev Nd.right .block] = true := (Bool.and_eq_true _ _ ▸ hst).2
 have hlen3 : T.kids.length = 2 := row_len hro
 obtain ⟨t0, t1, hks⟩ := kids_2 (l := T.kids) hlen3
 rw [hks] at hro
 simp only [rowB, Bool.and_eq_true, Bool.and_true] at hro
 obtain ⟨r0, r1⟩ := hro
 have hg0 : T.kids[0]? = some t0 := by rw [hks]; rfl
 obtain ⟨b, off, A0, c0', K0, d0, hKe0, hC0, hN0⟩ := hN.kid hg0
 have hd0 : t0.depth ≤ D ∧ t0.weight ≤ 1000000 := wKM hD hWt t0 (mog hg0)
 have hg1 : T.kids[1]? = some t1 := by rw [hks]; rfl
 obtain ⟨b1, off1, A1, c1', K1, d1, hKe1, hC1, hN1⟩ := hN.kid hg1
 have hd1 : t1.depth ≤ D ∧ t1.weight ≤ 1000000 := wKM hD hWt t1 (mog hg1)
 rw [Nat.zero_mul, Nat.add_zero] at hC0
 subst hKe0
 injection hKe1 with e1
 injection e1 with e1 e2
 subst e1 e2
 rw [show 1 * 6 = 6 from rfl] at hC1
 have hv0 := hv t0 hg0
 have q0 : (t0.kind == 0) = false := beq_eq_false_iff_ne.2 hv0
 have q0' : (t0.kind != 0) = true := by rw [bne, q0]; rfl
 have hdc : (((dep + 1 : Nat)) : Int) = (dep : Int) + 1 := by omega
 have hdcw : (((dep + 1 : Nat)) : Int) = IntKind.i64.wrap ((dep : Int) + 1) := by rw [IntKind.wrap_i64]; omega
 have htz : T.lin dep = padL dep ++ [99, 108, 97, 115, 115, 32] ++ tx T ++ [40] ++ t0.txt ++ [41] ++ [58, 10] ++ t1.lin (dep + 1) := by rw [lin_eq]; simp [linOf, hk, kd, gy, hks, hv0]
 have HTX := Lh htz
 rw [htz] at hlen
 clear htz
 simp only [length_append, length_cons, length_nil] at hlen
 have hl1 : (t1.lin (dep + 1)).length ≤ 1000000000000 := by omega
 have hz0 := ba_len (nodeAt_okN t0 hN0) hd0.2
 have HR0 := Lh (fun W (hb : Below w.heap.size w W) => rText_ok D t0 A0 c0' K0 d0 W ((mb_of r0).resolve_left hv0).te hd0.1 hd0.2 (hN0.later hb))
 have i0 : (0 : Int) < (T.kids.length : Int) := by omega
 have i0' : 0 < T.kids.length := by omega
 have hz1 : (ba (t1.lin (dep + 1))).size ≤ 1000000000000 := by rw [ba_size]; exact hl1
 have hr1 := (fun W (hb : Below w.heap.size w W) => rWithin_ok D (dep + 1) lq29 hL t1 A1 c1' K1 d1 W (blk_of r1) lq29 hd1.2 hl1 (hN1.later hb))
 simp only [hdc] at hr1
 have HR1 := Lh hr1
 clear hr1
 have i1 : (1 : Int) < (T.kids.length : Int) := by omega
 have i1' : 1 < T.kids.length := by omega
 have hzx : T.text.size ≤ 1000000 := by have := T.weight_eq; omega
 obtain ⟨z3, z4, z5, z6, z7, z8, z9, z10⟩ := kz8 hk 3 4 5 6 7 8 9 10 rfl
 obtain ⟨z11, z12, z13, z14, z15, z16, z17, z18⟩ := kz8 hk 11 12 13 14 15 16 17 18 rfl
 have z20 : (T.kind == 20) = true := by rw [hk]; rfl
 obtain ⟨hm1, hm2, hrm, hw32, hk1, hk2, ⟨hk64a, hk64b⟩, ⟨ha64a, ha64b⟩, hts, hKs, HK⟩ := hN.hd
 obtain ⟨hb1, c0, c1, c2, c3, c4, c5⟩ := bxn w T A c (some ⟨b, off, none⟩) d
 obtain ⟨n00, n01, n02, n03, n04, n05⟩ := hC0.later hb1
 have hlk0 := blt n00
 obtain ⟨n10, n11, n12, n13, n14, n15⟩ := hC1.later hb1
 have hlk1 := blt n10
 unfold ndV
 clear hKs hN hT hD hWt hrm hw32 hk hlen hts hL hdc hdcw hst hlen3 hks hg0 hN0 hd0 r0 hg1 hN1 hd1 r1 hv hv0
 go_enter Tryz.func50, Tryz.ntmps50
 go_wp2_with fail
 generalize w.alloc (bx T.kind T A c (some ⟨b, off, none⟩) d) = w1 at *
 have hlb1 := blt c0
 have hs0 := fun W (hb : Below w1.heap.size w1 W) => HR0.out W (hb1.trans (hb.mono hb1.size))
 unfold ndV at hs0
 have HS0 := Lh hs0
 clear hs0
 have hs1 := fun W (hb : Below w1.heap.size w1 W) => HR1.out W (hb1.trans (hb.mono hb1.size))
 unfold ndV at hs1
 have HS1 := Lh hs1
 clear hs1
 go_loopw [5, 6] (fun sv iv wr => ∃ k : Nat, iv = .int .i64 k ∧ sv = .string (ba (padL k)) ∧ k ≤ dep ∧ w1 = wr) (fun _ iv _ => dep - (intOf iv).toNat)
 case atStart => exact ⟨0, rfl, rfl, Nat.zero_le _, rfl⟩
 case round =>
  obtain ⟨k, rfl, rfl, hkd, rfl⟩ := hrel; have hzk : (ba (padL k)).size ≤ 1000000 := by rw [ba_size, padL_len]; omega
  by_cases hkl : k < dep
  ·exact lv124
  ·have o1 : decide ((k : Int) < (dep : Int)) = false := dFo; have o2 : decide (k < dep) = false := dFa hkl; obtain ⟨Z, hZ⟩ : ∃ Z, ba (padL k) = Z := ⟨_, rfl⟩; have HZ := Lh (show ba (padL dep) = Z by rw [← hZ, show k = dep by omega]); rw [hZ] at hzk ⊢; clear hZ hkl hkd; go_wp2_with fail; have hI := HS0.out _ (Below.refl _ _)
   go_at_call 99
   refine hI.mono ?_
   rintro e w_1 ⟨rfl, hb_1⟩; clear hI; have hB_1 := hb_1; obtain ⟨c0, c1, c2, c3, c4, c5⟩ := cl6 hb_1 c0 c1 c2 c3 c4 c5; obtain ⟨n00, n01, n02, n03, n04, n05⟩ := cl6 hb_1 n00 n01 n02 n03 n04 n05; obtain ⟨n10, n11, n12, n13, n14, n15⟩ := cl6 hb_1 n10 n11 n12 n13 n14 n15; go_wp2_with fail; have hI := HS1.out _ hB_1
   go_at_call 36
   refine hI.mono ?_
   rintro e w_2 ⟨rfl, hb_2⟩; clear hI; have hB_2 := hB_1.trans (hb_2.mono hB_1.size); obtain ⟨c0, c1, c2, c3, c4, c5⟩ := cl6 hb_2 c0 c1 c2 c3 c4 c5; obtain ⟨n00, n01, n02, n03, n04, n05⟩ := cl6 hb_2 n00 n01 n02 n03 n04 n05; obtain ⟨n10, n11, n12, n13, n14, n15⟩ := cl6 hb_2 n10 n11 n12 n13 n14 n15; go_wp2_with fail; go_ret; exact ⟨by rw [HTX.out]; (try simp only [← ba_app, ba_text, HZ.out]); rfl, hb1.trans (hB_2.mono hb1.size)⟩
end

theorem rl21 (D : Nat) (hL : RLOk D) (dep : Nat) (hdp : dep + (D + 1) ≤ 1000000) (T : Nd) (A : Option Addr) (c : Nat) (K : Option Addr) (d : Nat) (w : World) (hk : T.kind = 21) (hT : St T) (hD : T.depth ≤ D + 1) (hWt : T.weight ≤ 1000000) (hlen : (T.lin dep).length ≤ 1000000000000) (hN : NodeAt w T A c K d) :
  Calls Tryz.prog 50 #[ndV T A c K d, .int .i64 ((dep : Nat) : Int)] w fun e w' => e = .returned (.string (ba (T.lin dep))) ∧ Below w.heap.size w w' := by
 have hst := (st_at hk (tx := .non) (fm := .tri) rfl lq28 lq28 lq28).symm.trans hT
 have htr : tryL T.kids = true := (Bool.and_eq_true _ _ ▸ hst).2
 simp only [tryL, Bool.and_eq_true, decide_eq_true_eq] at htr
 obtain ⟨⟨h2, hbl⟩, hca⟩ := htr
 obtain ⟨t0, hg0⟩ : ∃ t0, T.kids[0]? = some t0 := ⟨_, gEo⟩
 rw [take_one hg0] at hbl
 have r0 : Sh.block.ev Nd.right t0 = true := by simpa using hbl
 obtain ⟨b, off, A0, c0', K0, d0, hKe0, hC0, hN0⟩ := hN.kid hg0
 rw [Nat.zero_mul, Nat.add_zero] at hC0
 subst hKe0
 have hd0 := wKM hD hWt t0 (mog hg0)
 have hgm : gy (T.kids.map Nd.lin) 0 (dep + 1) = t0.lin (dep + 1) := by
  unfold gy
  simp [List.getD, hg0]
 have HCA := Lh (catch_all _ hca)
 have HWI := Lh (wKM hD hWt)
 have HOK := Lh (kidsAt_okN hN.parts.2.2.2.2.2.2.2.2.2)
 have HLL := Lh hL
 have HDC := Lh (show (((dep + 1 : Nat)) : Int) = (dep : Int) + 1 by omega)
 obtain ⟨F, hF⟩ : ∃ F : Nat → ByteArray, F = fun k => ba (padL dep ++ [116, 114, 121, 58, 10] ++ t0.lin (dep + 1) ++ (((T.kids.drop 1).take k).map Nd.lin).flatMap (fun y => y dep)) := ⟨_, rfl⟩
 have hdc : (((dep + 1 : Nat)) : Int) = (dep : Int) + 1 := by omega
 have hdcw : (((dep + 1 : Nat)) : Int) = IntKind.i64.wrap ((dep : Int) + 1) := by rw [IntKind.wrap_i64]; omega
 have htz : T.lin dep = padL dep ++ [116, 114, 121, 58, 10] ++ t0.lin (dep + 1) ++ ((T.kids.map Nd.lin).drop 1).flatMap (fun y => y dep) := by rw [lin_eq]; simp [linOf, hk, hgm]
 have HTX := Lh htz
 rw [htz] at hlen
 clear htz
 simp only [length_append, length_cons, length_nil] at hlen
 have hl0 : (t0.lin (dep + 1)).length ≤ 1000000000000 := by omega
 have HFZ := Lh (fun k => show (F k).size ≤ 1000000000000 by
  rw [hF, ba_size]; have := flat_lin_le (T.kids.drop 1) k dep; rw [List.map_drop] at this; simp only [length_append, length_cons, length_nil]
  omega)
 have HLZ := Lh (fun (k : Nat) (t : Nd) (ht : (T.kids.drop 1)[k]? = some t) => show (t.lin dep).length ≤ 1000000000000 by
  have h1 := flat_lin_le (T.kids.drop 1) (k + 1) dep; rw [flat_lin_take ht dep, length_append, List.map_drop] at h1
  omega)
 have HFS := Lh (fun (k : Nat) (t : Nd) (ht : (T.kids.drop 1)[k]? = some t) => show F k ++ ba (t.lin dep) = F (k + 1) by
  rw [hF]
  dsimp only
  rw [flat_lin_take ht dep, ba_app, List.append_assoc _ _ (t.lin dep)])
 have HFE := Lh (show F (T.kids.length - 1) = ba (T.lin dep) by
  rw [hF, HTX.out]
  dsimp only
  rw [List.take_of_length_le lq20, List.map_drop])
 have HF0 := Lh (fun Z (hz : ba (padL dep) = Z) => show Z ++ { data := #[116, 114, 121, 58, 10] } ++ ba (t0.lin (dep + 1)) = F 0 by
  rw [hF, ← hz, show ({ data := #[116, 114, 121, 58, 10] } : ByteArray) = ba [116, 114, 121, 58, 10] from rfl, ba_app, ba_app]
  simp)
 have hz0 : (ba (t0.lin (dep + 1))).size ≤ 1000000000000 := by rw [ba_size]; exact hl0
 have hr0 := (fun W (hb : Below w.heap.size w W) => rWithin_ok D (dep + 1) lq29 hL t0 A0 c0' K0 d0 W (blk_of r0) lq29 hd0.2 hl0 (hN0.later hb))
 simp only [hdc] at hr0
 have HR0 := Lh hr0
 clear hr0
 have i0 : (0 : Int) < (T.kids.length : Int) := by omega
 have i0' : 0 < T.kids.length := by omega
 obtain ⟨z3, z4, z5, z6, z7, z8, z9, z10⟩ := kz8 hk 3 4 5 6 7 8 9 10 rfl
 obtain ⟨z11, z12, z13, z14, z15, z16, z17, z18⟩ := kz8 hk 11 12 13 14 15 16 17 18 rfl
 have z20 : (T.kind == 20) = false := by rw [hk]; rfl
 obtain ⟨hm1, hm2, hrm, hw32, hk1, hk2, ⟨hk64a, hk64b⟩, ⟨ha64a, ha64b⟩, hts, hKs, HK⟩ := hN.hd
 obtain ⟨hb1, c0, c1, c2, c3, c4, c5⟩ := bxn w T A c (some ⟨b, off, none⟩) d
 obtain ⟨n00, n01, n02, n03, n04, n05⟩ := hC0.later hb1
 have hlk0 := blt n00
 unfold ndV
 clear hKs hN hT hD hWt hrm hw32 hk hlen hts hL hdc hdcw  hg0 hN0 hd0 r0 hst hbl hca hgm hF
 go_enter Tryz.func50, Tryz.ntmps50
 go_wp2_with fail
 generalize w.alloc (bx T.kind T A c (some ⟨b, off, none⟩) d) = w1 at *
 have hlb1 := blt c0
 have hs0 := fun W (hb : Below w1.heap.size w1 W) => HR0.out W (hb1.trans (hb.mono hb1.size))
 unfold ndV at hs0
 have HS0 := Lh hs0
 clear hs0
 go_loopw [5, 6] (fun sv iv wr => ∃ k : Nat, iv = .int .i64 k ∧ sv = .string (ba (padL k)) ∧ k ≤ dep ∧ w1 = wr) (fun _ iv _ => dep - (intOf iv).toNat)
 case atStart => exact ⟨0, rfl, rfl, Nat.zero_le _, rfl⟩
 case round =>
  obtain ⟨k, rfl, rfl, hkd, rfl⟩ := hrel; have hzk : (ba (padL k)).size ≤ 1000000 := by rw [ba_size, padL_len]; omega
  by_cases hkl : k < dep
  ·exact lv124
  ·have o1 : decide ((k : Int) < (dep : Int)) = false := dFo; have o2 : decide (k < dep) = false := dFa hkl; obtain ⟨Z, hZ⟩ : ∃ Z, ba (padL k) = Z := ⟨_, rfl⟩; have HZ := Lh (show ba (padL dep) = Z by rw [← hZ, show k = dep by omega]); rw [hZ] at hzk ⊢; clear hZ hkl hkd; go_wp2_with fail; have hI := HS0.out _ (Below.refl _ _)
   go_at_call 36
   refine hI.mono ?_
   rintro e w_1 ⟨rfl, hb_1⟩; clear hI; have hB_1 := hb_1; obtain ⟨c0, c1, c2, c3, c4, c5⟩ := cl6 hb_1 c0 c1 c2 c3 c4 c5; obtain ⟨n00, n01, n02, n03, n04, n05⟩ := cl6 hb_1 n00 n01 n02 n03 n04 n05; go_wp2_with fail; have HBH := Lh hb_1; have HF00 := Lh (HF0.out Z HZ.out)
   go_loopw [10, 11] (fun sv iv wr => ∃ k : Nat, iv = .int .i64 ((k : Int) + 1) ∧ sv = .string (F k) ∧ k + 1 ≤ T.kids.length ∧ Below w1.heap.size w1 wr) (fun _ iv _ => T.kids.length - (intOf iv).toNat)
   case atStart => exact ⟨0, rfl, congrArg Value.string HF00.out, by omega, HBH.out⟩
   case round =>
    obtain ⟨k, rfl, rfl, hkk, hbr⟩ := hrel; have hzF := HFZ.out k
    by_cases hkl : k + 1 < T.kids.length
    ·have o1 : decide ((k : Int) + 1 < (T.kids.length : Int)) = true := dTo; have o2 : decide (k + 1 < T.kids.length) = true := dTr hkl; obtain ⟨t, ht⟩ : ∃ t, T.kids[k + 1]? = some t := ⟨_, List.getElem?_eq_getElem hkl⟩; have htd : (T.kids.drop 1)[k]? = some t := by rw [List.getElem?_drop, show 1 + k = k + 1 by omega]; exact ht
     obtain ⟨hk22, hrt⟩ := HCA.out t (mog htd); obtain ⟨q, bl, hkq⟩ := kids_2 (except_kids hk22 hrt); rw [exc_eq hk22 hkq] at hrt; simp only [Bool.and_eq_true] at hrt; have hmq : Mb q := by
      rcases Bool.or_eq_true _ _ ▸ hrt.2.1.1 with h | h
      ·exact .inl (kind_none h)
      ·exact .inr (ev_ex h)
     have hbb := blk_of hrt.2.1.2; have hdt := HWI.out t (mog ht); have hWIt : WithinM D t.kids := wKM lq29 hdt.2; have hdq := hWIt q (by rw [hkq]; simp); have hdb := hWIt bl (by rw [hkq]; simp); have hbw := hb1.trans (hbr.mono hb1.size); obtain ⟨b2, off2, A', c', K', d', hKe, hC, hNt⟩ := HK.out _ t ht; injection hKe with hKe
     injection hKe with q1 q2
     subst q1 q2; obtain ⟨b3, off3, Aq, cq, Kq, dq, hKq, hCq, hNq⟩ := hNt.kid (show t.kids[0]? = some q by rw [hkq]; rfl); rw [Nat.zero_mul, Nat.add_zero] at hCq; subst hKq; obtain ⟨b4, off4, Ab, cb, Kb, db, hKb, hCb, hNb⟩ := hNt.kid (show t.kids[1]? = some bl by rw [hkq]; rfl); injection hKb with hKb
     injection hKb with q1 q2
     subst q1 q2; rw [show 1 * 6 = 6 from rfl] at hCb; obtain ⟨m0, m1, m2, m3, m4, m5⟩ := hC.later hbw; obtain ⟨p0, p1, p2, p3, p4, p5⟩ := hCq.later hbw; obtain ⟨s0, s1, s2, s3, s4, s5⟩ := hCb.later hbw; have hbm := blt m0; have hbp := blt p0; have hbs := blt s0; have j0 : (0 : Int) < (t.kids.length : Int) := by rw [hkq]; simp
     have j1 : (1 : Int) < (t.kids.length : Int) := by rw [hkq]; simp
     have j0' : 0 < t.kids.length := by rw [hkq]; simp
     have j1' : 1 < t.kids.length := by rw [hkq]; simp
     have j2 : (0 : Int) ≤ (k : Int) + 1 := by omega
     have hokt := HOK.out t (mog ht); have hzq := mbl_len (nodeAt_okN q hNq) hdq.2; have hzl := HLZ.out k t htd; have hlb : (bl.lin (dep + 1)).length ≤ (t.lin dep).length := by
      rw [lin_eq t dep]; simp [linOf, hk22, hkq, kd, gy]; omega
     have hzb : (ba (bl.lin (dep + 1))).size ≤ 1000000000000 := by rw [ba_size]; omega
     have hzt : t.text.size ≤ 1000000 := by have := t.weight_eq; omega
     have hIq := rMaybe_ok D q Aq cq Kq dq wr hmq hdq.1 hdq.2 (hNq.later hbw); unfold ndV at hIq; have hIb := fun W (hb : Below wr.heap.size wr W) => rWithin_ok D (dep + 1) lq29 HLL.out bl Ab cb Kb db W hbb lq29 hdb.2 lq29 (hNb.later (hbw.trans (hb.mono hbw.size)))
     simp only [HDC.out] at hIb; have HIb := Lh hIb; clear hIb; have HTE := Lh (text_empty t.text)
     by_cases htz : t.text.size = 0
     ·have et : t.text.toList.isEmpty = true := by rw [HTE.out, htz]; rfl
      have HV := Lh (show F k ++ Z ++ { data := #[101, 120, 99, 101, 112, 116] } ++ ba (maybeL q) ++ { data := #[58, 10] } ++ ba (bl.lin (dep + 1)) = F (k + 1) by
       rw [← HFS.out k t htd, lin_eq t dep, ← HZ.out]; simp only [ByteArray.append_assoc]
       congr 1
       rw [show ({ data := #[101, 120, 99, 101, 112, 116] } : ByteArray) = ba [101, 120, 99, 101, 112, 116] from rfl, show ({ data := #[58, 10] } : ByteArray) = ba [58, 10] from rfl]; simp only [ba_app]
       congr 1
       simp [linOf, hk22, hkq, kd, gy, htz])
      exact lv93
     ·have et : t.text.toList.isEmpty = false := by rw [HTE.out]; simpa using htz
      have HV := Lh (show F k ++ Z ++ { data := #[101, 120, 99, 101, 112, 116] } ++ ba (maybeL q) ++ { data := #[32, 97, 115, 32] } ++ t.text ++ { data := #[58, 10] } ++ ba (bl.lin (dep + 1)) = F (k + 1) by
       rw [← HFS.out k t htd, lin_eq t dep, ← HZ.out]; simp only [ByteArray.append_assoc]
       congr 1
       rw [show ({ data := #[101, 120, 99, 101, 112, 116] } : ByteArray) = ba [101, 120, 99, 101, 112, 116] from rfl, show ({ data := #[58, 10] } : ByteArray) = ba [58, 10] from rfl, show ({ data := #[32, 97, 115, 32] } : ByteArray) = ba [32, 97, 115, 32] from rfl, ← ba_text t]; simp only [ba_app]
       congr 1
       simp [linOf, hk22, hkq, kd, gy, htz])
      exact lv93
    ·have o1 : decide ((k : Int) + 1 < (T.kids.length : Int)) = false := dFo; have o2 : decide (k + 1 < T.kids.length) = false := dFa hkl; have HV := Lh (show F k = ba (T.lin dep) by rw [← HFE.out, show k = T.kids.length - 1 by omega]); have hbw := hb1.trans (hbr.mono hb1.size); go_wp2_with fail; go_ret; exact ⟨by rw [← HV.out]; rfl, hbw⟩
theorem okN_kids {t : Nd} (h : okN t) : ∀ q ∈ t.kids, okN q := fun q hq => okNs_mem ((okN_eq t).1 h).2 q hq
theorem pars_bound (l : List Nd) (h : ∀ t ∈ l, okN t) : (sepL com (l.map parL)).length ≤ 64 * weights l + 2 * l.length := by
 have h1 := sep_total com (l.map parL)
 have h2 := total_any (f := parL) l (fun t ht => par_len (fun q hq => by have := txt_len q (okN_kids (h t ht) q hq); omega))
 rw [List.length_map] at h1
 have h3 : com.length = 2 := rfl
 rw [h3] at h1
 omega
theorem rParams_ok (D : Nat) (l : List Nd) (n m : Nat) (K : Option Addr) (d : Nat) (w : World) (hn : l.length = n) (hm : n = m + 1) (hl : KidsAt w l K 0) (hpar : ∀ p ∈ l.take m, p.kind = 19 ∧ p.right = true) (hWi : WithinM D l) (hwl : weights l ≤ 1000000) (hnd : n ≤ d) (hd : d ≤ maxLen) :
  Calls Tryz.prog 102 #[.slice K n d] w fun e w' => e = .returned (.string (ba (sepL com ((l.take m).map parL)))) ∧ Below w.heap.size w w' := by
 unfold maxLen at hd
 have hlw := weights_len l
 have hnw : n ≤ 1000000 := by omega
 obtain ⟨F, hF⟩ : ∃ F : Nat → ByteArray, F = fun k => ba (sepL com ((l.map parL).take k)) := ⟨_, rfl⟩
 have hpb := pars_bound l (kidsAt_okN hl)
 have HFZ := Lh (fun (k : Nat) => show (F k).size ≤ 100000000 by
  rw [hF, ba_size]; have := sep_le com (l.map parL) k
  omega)
 have HFS := Lh (fun (k : Nat) (t : Nd) (ht : l[k]? = some t) => show F (k + 1) = F k ++ ba ((if k = 0 then [] else com) ++ parL t) by
  rw [hF]
  dsimp only
  rw [sep_take com (show (l.map parL)[k]? = some (parL t) by rw [List.getElem?_map, ht]; rfl), ← ba_app])
 have HFE := Lh (show F m = ba (sepL com ((l.take m).map parL)) by rw [hF]; dsimp only; rw [List.map_take])
 have HF0 := Lh (show F 0 = ⟨#[]⟩ by rw [hF]; rfl)
 have HOK := Lh (kidsAt_okN hl)
 have HK := Lh hl
 have HN := Lh hn
 have HP := Lh hpar
 have HW := Lh hWi
 have hnm : (n : Int) = (m : Int) + 1 := by omega
 have HM := Lh hm
 clear hl hn hpar hWi hlw hF hpb hm
 go_enter Tryz.func102, Tryz.ntmps102
 go_wp2_with fail
 go_loopw [3, 4, 5] (fun sv iv _ wr => ∃ k : Nat, iv = .int .i64 k ∧ sv = .string (F k) ∧ k ≤ m ∧ Below w.heap.size w wr) (fun _ iv _ _ => n - (intOf iv).toNat)
 case atStart => exact ⟨0, rfl, by rw [HF0.out], Nat.zero_le _, Below.refl _ _⟩
 case round =>
  obtain ⟨k, rfl, rfl, hk, hbr⟩ := hrel; have hzF := HFZ.out k
  by_cases hkl : k < m
  ·have o1 : decide ((k : Int) + 1 < (n : Int)) = true := dTo; have o2 : decide (k + 1 < n) = true := dTo; have o3 : (k : Int) < (n : Int) := by omega
   have o4 : k < n := by omega
   obtain ⟨t, ht⟩ : ∃ t, l[k]? = some t := ⟨_, List.getElem?_eq_getElem (by rw [HN.out]; omega)⟩; obtain ⟨hk19, hrt⟩ := HP.out t (mog (by rw [List.getElem?_take, if_pos hkl]; exact ht)); obtain ⟨bb, ofl, A', c', K', d', hKe, hC, hNt⟩ := HK.out.kid ht; rw [Nat.zero_add] at hC; subst hKe; obtain ⟨m0, m1, m2, m3, m4, m5⟩ := hC.later hbr; have hbm := blt m0; have hm := mog ht; have hdt := HW.out t hm; have hokt := HOK.out t hm; have hzt : t.text.size ≤ 1000000 := by have := t.weight_eq; omega
   have hst := HFS.out k t ht
   rcases par_kid hk19 hrt with hks | ⟨t0, hks, hmb⟩
   ·have el : ((t.kids.length : Int) == 0) = true := by rw [hks]; rfl
    rw [parL, hks] at hst; clear hks hC hNt ht hm hk19 hrt hokt
    by_cases h0 : k = 0
    ·have q0 : decide ((0 : Int) < (k : Int)) = false := dFo; have q1 : decide (0 < k) = false := dFo; rw [if_pos h0] at hst; clear h0
     have HV := Lh (show F k ++ ({ data := #[42, 42] } : ByteArray) ++ t.text = F (k + 1) by
      rw [hst, ← ba_text t]
      try simp only [show ({ data := #[44, 32] } : ByteArray) = ba [44, 32] from rfl, show ({ data := #[42, 42] } : ByteArray) = ba [42, 42] from rfl, show ({ data := #[61] } : ByteArray) = ba [61] from rfl, ByteArray.append_assoc, ba_app]
      try simp)
     clear hst; go_wp2_with fail
     go_roundw
     case rel => exact ⟨k + 1, by go_num, by rw [← HV.out], by omega, hbr.alloc hbr.size _⟩
     case measure => simp [intOf]; omega
    ·have q0 : decide ((0 : Int) < (k : Int)) = true := dTo; have q1 : decide (0 < k) = true := dTo; rw [if_neg h0] at hst; clear h0
     have HV := Lh (show F k ++ ({ data := #[44, 32] } : ByteArray) ++ ({ data := #[42, 42] } : ByteArray) ++ t.text = F (k + 1) by
      rw [hst, show (com : List UInt8) = [44, 32] from rfl, ← ba_text t]
      try simp only [show ({ data := #[44, 32] } : ByteArray) = ba [44, 32] from rfl, show ({ data := #[42, 42] } : ByteArray) = ba [42, 42] from rfl, show ({ data := #[61] } : ByteArray) = ba [61] from rfl, ByteArray.append_assoc, ba_app]
      try simp)
     clear hst; go_wp2_with fail
     go_roundw
     case rel => exact ⟨k + 1, by go_num, by rw [← HV.out], by omega, hbr.alloc hbr.size _⟩
     case measure => simp [intOf]; omega
   ·have el : ((t.kids.length : Int) == 0) = false := by rw [hks]; rfl
    have j0 : (0 : Int) < (t.kids.length : Int) := by rw [hks]; simp
    have j0' : 0 < t.kids.length := by rw [hks]; simp
    obtain ⟨b, off, A0, c0', K0, d0, hKq, hC0, hN0⟩ := hNt.kid (show t.kids[0]? = some t0 by rw [hks]; rfl); rw [Nat.zero_mul, Nat.add_zero] at hC0; subst hKq; have hd0 := wKM (D := D) lq29 hdt.2 t0 (by rw [hks]; simp); have hz0 := ba_len (nodeAt_okN t0 hN0) hd0.2; obtain ⟨n00, n01, n02, n03, n04, n05⟩ := hC0.later hbr; rw [parL, hks] at hst
    dsimp only at hst
    by_cases hq : t0.kind = 0
    ·have z0 : (t0.kind == 0) = true := by rw [hq]; rfl
     rw [if_pos hq] at hst; clear hks hC hNt ht hm hk19 hrt hokt hC0 hN0 hmb hq
     by_cases h0 : k = 0
     ·have q0 : decide ((0 : Int) < (k : Int)) = false := dFo; have q1 : decide (0 < k) = false := dFo; rw [if_pos h0] at hst; clear h0
      have HV := Lh (show F k ++ t.text = F (k + 1) by
       rw [hst, ← ba_text t]
       try simp only [show ({ data := #[44, 32] } : ByteArray) = ba [44, 32] from rfl, show ({ data := #[42, 42] } : ByteArray) = ba [42, 42] from rfl, show ({ data := #[61] } : ByteArray) = ba [61] from rfl, ByteArray.append_assoc, ba_app]
       try simp)
      exact lv174
     ·have q0 : decide ((0 : Int) < (k : Int)) = true := dTo; have q1 : decide (0 < k) = true := dTo; rw [if_neg h0] at hst; clear h0
      have HV := Lh (show F k ++ ({ data := #[44, 32] } : ByteArray) ++ t.text = F (k + 1) by
       rw [hst, show (com : List UInt8) = [44, 32] from rfl, ← ba_text t]
       try simp only [show ({ data := #[44, 32] } : ByteArray) = ba [44, 32] from rfl, show ({ data := #[42, 42] } : ByteArray) = ba [42, 42] from rfl, show ({ data := #[61] } : ByteArray) = ba [61] from rfl, ByteArray.append_assoc, ba_app]
       try simp)
      exact lv174
    ·have z0 : (t0.kind == 0) = false := beq_eq_false_iff_ne.2 hq; rw [if_neg hq] at hst; have HR0 := Lh (fun W (hb : Below w.heap.size w W) => rText_ok D t0 A0 c0' K0 d0 W (hmb.resolve_left hq).te hd0.1 hd0.2 (hN0.later hb)); clear hks hC hNt ht hm hk19 hrt hokt hC0 hN0 hmb hq
     by_cases h0 : k = 0
     ·have q0 : decide ((0 : Int) < (k : Int)) = false := dFo; have q1 : decide (0 < k) = false := dFo; rw [if_pos h0] at hst; clear h0
      have HV := Lh (show F k ++ t.text ++ ({ data := #[61] } : ByteArray) ++ ba t0.txt = F (k + 1) by
       rw [hst, ← ba_text t]
       try simp only [show ({ data := #[44, 32] } : ByteArray) = ba [44, 32] from rfl, show ({ data := #[42, 42] } : ByteArray) = ba [42, 42] from rfl, show ({ data := #[61] } : ByteArray) = ba [61] from rfl, ByteArray.append_assoc, ba_app]
       try simp)
      clear hst; have hlk0 := blt n00; go_wp2_with fail; have hb1 := (Below.refl wr.heap.size wr).alloc (Nat.le_refl _) (.cells #[.int .i64 t.kind, .int .i64 t.pos, .string t.text, .bool t.neg, .slice A' t.mag.length c', .slice (some ⟨b, off, none⟩) t.kids.length d'] 27); obtain ⟨c0, c1, c2, c3, c4, c5⟩ := (cellsN_new wr t A' c' (some ⟨b, off, none⟩) d' 27).box
      generalize wr.alloc (.cells #[.int .i64 t.kind, .int .i64 t.pos, .string t.text, .bool t.neg, .slice A' t.mag.length c', .slice (some ⟨b, off, none⟩) t.kids.length d'] 27) = w1 at *
      obtain ⟨n00, n01, n02, n03, n04, n05⟩ := cl6 hb1 n00 n01 n02 n03 n04 n05; have hlk0 := blt n00; have hlb1 := blt c0; have hs0 := fun W (hb : Below w1.heap.size w1 W) => HR0.out W (hbr.trans ((hb1.trans (hb.mono hb1.size)).mono hbr.size))
      unfold ndV at hs0; have HS0 := Lh hs0; clear hs0; have hqs0 : ({ data := #[61] } : ByteArray).size = 1 := rfl; have had0 := fun (W : World) => run_string_add_sum (P := Tryz.prog) (w := W) (F k) (t.text) lq18
      have had1 := fun (W : World) => run_string_add_sum (P := Tryz.prog) (w := W) (F k ++ t.text) (({ data := #[61] } : ByteArray)) lq18
      have had2 := fun (W : World) => run_string_add_sum (P := Tryz.prog) (w := W) (F k ++ t.text ++ ({ data := #[61] } : ByteArray)) (ba t0.txt) lq18
      clear hqs0; exact lv35
     ·have q0 : decide ((0 : Int) < (k : Int)) = true := dTo; have q1 : decide (0 < k) = true := dTo; rw [if_neg h0] at hst; clear h0
      have HV := Lh (show F k ++ ({ data := #[44, 32] } : ByteArray) ++ t.text ++ ({ data := #[61] } : ByteArray) ++ ba t0.txt = F (k + 1) by
       rw [hst, show (com : List UInt8) = [44, 32] from rfl, ← ba_text t]
       try simp only [show ({ data := #[44, 32] } : ByteArray) = ba [44, 32] from rfl, show ({ data := #[42, 42] } : ByteArray) = ba [42, 42] from rfl, show ({ data := #[61] } : ByteArray) = ba [61] from rfl, ByteArray.append_assoc, ba_app]
       try simp)
      clear hst; have hlk0 := blt n00; go_wp2_with fail; have hb1 := (Below.refl wr.heap.size wr).alloc (Nat.le_refl _) (.cells #[.int .i64 t.kind, .int .i64 t.pos, .string t.text, .bool t.neg, .slice A' t.mag.length c', .slice (some ⟨b, off, none⟩) t.kids.length d'] 27); obtain ⟨c0, c1, c2, c3, c4, c5⟩ := (cellsN_new wr t A' c' (some ⟨b, off, none⟩) d' 27).box
      generalize wr.alloc (.cells #[.int .i64 t.kind, .int .i64 t.pos, .string t.text, .bool t.neg, .slice A' t.mag.length c', .slice (some ⟨b, off, none⟩) t.kids.length d'] 27) = w1 at *
      obtain ⟨n00, n01, n02, n03, n04, n05⟩ := cl6 hb1 n00 n01 n02 n03 n04 n05; have hlk0 := blt n00; have hlb1 := blt c0; have hs0 := fun W (hb : Below w1.heap.size w1 W) => HR0.out W (hbr.trans ((hb1.trans (hb.mono hb1.size)).mono hbr.size))
      unfold ndV at hs0; have HS0 := Lh hs0; clear hs0; have hqs0 : ({ data := #[44, 32] } : ByteArray).size = 2 := rfl; have hqs1 : ({ data := #[61] } : ByteArray).size = 1 := rfl; have had0 := fun (W : World) => run_string_add_sum (P := Tryz.prog) (w := W) (F k) (({ data := #[44, 32] } : ByteArray)) lq18
      have had1 := fun (W : World) => run_string_add_sum (P := Tryz.prog) (w := W) (F k ++ ({ data := #[44, 32] } : ByteArray)) (t.text) lq18
      have had2 := fun (W : World) => run_string_add_sum (P := Tryz.prog) (w := W) (F k ++ ({ data := #[44, 32] } : ByteArray) ++ t.text) (({ data := #[61] } : ByteArray)) lq18
      have had3 := fun (W : World) => run_string_add_sum (P := Tryz.prog) (w := W) (F k ++ ({ data := #[44, 32] } : ByteArray) ++ t.text ++ ({ data := #[61] } : ByteArray)) (ba t0.txt) lq18
      clear hqs0 hqs1; exact lv35
  ·have o1 : decide ((k : Int) + 1 < (n : Int)) = false := dFo; have o2 : decide (k + 1 < n) = false := dFo; have HV := Lh (show F k = ba (sepL com ((l.take m).map parL)) by rw [← HFE.out, show k = m by omega]); go_wp2_with fail; go_ret; exact ⟨by rw [← HV.out]; rfl, hbr⟩
end
end Go.Proofs.YtjefhdlncikhmaaGreatDoor
