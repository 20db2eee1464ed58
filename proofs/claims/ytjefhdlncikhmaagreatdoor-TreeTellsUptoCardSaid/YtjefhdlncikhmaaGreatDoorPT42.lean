/- Joined by a program: Rt6a, Rt6b, Rt6c, Rt6d. -/
import Derived.Test.YtjefhdlncikhmaaGreatDoorPT41
namespace Go.Proofs.YtjefhdlncikhmaaGreatDoor
set_option linter.unusedVariables false
set_option linter.unusedSimpArgs false
set_option maxRecDepth 1000000
set_option maxHeartbeats 16000000
section
open Go.RowKit
open List (length_append length_cons length_nil length_singleton)
section
variable (D : Nat) (hL : RLOk D) (dep : Nat) (hdp : dep + (D + 1) ≤ 1000000) (T : Nd) (A : Option Addr) (c : Nat) (K : Option Addr) (d : Nat) (w : World)
include D hL dep hdp T A c K d w
theorem rl3 (hk : T.kind = 3) (hT : St T) (hD : T.depth ≤ D + 1) (hWt : T.weight ≤ 1000000) (hlen : (T.lin dep).length ≤ 1000000000000) (hN : NodeAt w T A c K d) :
  Calls Tryz.prog 50 #[ndV T A c K d, .int .i64 ((dep : Nat) : Int)] w fun e w' => e = .returned (.string (ba (T.lin dep))) ∧ Below w.heap.size w w' := by
 have _ := hL
 have _ := hdp
 have hst : (Tx.non.ev T.text && noNumB T && rowB T.kids [Sh.ev Nd.right .expr]) = true := by
  rw [← show _ = (Tx.non.ev T.text && noNumB T && rowB T.kids [Sh.ev Nd.right .expr]) from st_at hk (tx := .non) (fm := .row [.expr]) rfl lq28 lq28 lq28]; exact hT
 have hro : rowB T.kids [Sh.ev Nd.right .expr] = true := (Bool.and_eq_true _ _ ▸ hst).2
 have hlen3 : T.kids.length = 1 := row_len hro
 obtain ⟨t0, hks⟩ := kids_1 (l := T.kids) hlen3
 rw [hks] at hro
 simp only [rowB, Bool.and_eq_true, Bool.and_true] at hro
 have r0 := hro
 have hg0 : T.kids[0]? = some t0 := by rw [hks]; rfl
 obtain ⟨b, off, A0, c0', K0, d0, hKe0, hC0, hN0⟩ := hN.kid hg0
 have hd0 : t0.depth ≤ D ∧ t0.weight ≤ 1000000 := wKM hD hWt t0 (mog hg0)
 rw [Nat.zero_mul, Nat.add_zero] at hC0
 subst hKe0
 have hdc : (((dep + 1 : Nat)) : Int) = (dep : Int) + 1 := by omega
 have hdcw : (((dep + 1 : Nat)) : Int) = IntKind.i64.wrap ((dep : Int) + 1) := by rw [IntKind.wrap_i64]; omega
 have htz : T.lin dep = padL dep ++ t0.txt ++ [10] := by rw [lin_eq]; simp [linOf, hk, kd, hks]
 have HTX := Lh htz
 rw [htz] at hlen
 clear htz
 simp only [length_append, length_cons, length_nil] at hlen
 have hz0 := ba_len (nodeAt_okN t0 hN0) hd0.2
 have HR0 := Lh (fun W (hb : Below w.heap.size w W) => rText_ok D t0 A0 c0' K0 d0 W (ev_ex r0).te hd0.1 hd0.2 (hN0.later hb))
 have i0 : (0 : Int) < (T.kids.length : Int) := by omega
 have i0' : 0 < T.kids.length := by omega
 have z3 : (T.kind == 3) = true := by rw [hk]; rfl
 obtain ⟨z4, z5, z6, z7, z8, z9, z10, z11⟩ := kz8 hk 4 5 6 7 8 9 10 11 rfl
 obtain ⟨z12, z13, z14, z15, z16, z17, z18, z20⟩ := kz8 hk 12 13 14 15 16 17 18 20 rfl
 exact lv22
theorem rl7 (hk : T.kind = 7) (hT : St T) (hD : T.depth ≤ D + 1) (hWt : T.weight ≤ 1000000) (hlen : (T.lin dep).length ≤ 1000000000000) (hN : NodeAt w T A c K d) :
  Calls Tryz.prog 50 #[ndV T A c K d, .int .i64 ((dep : Nat) : Int)] w fun e w' => e = .returned (.string (ba (T.lin dep))) ∧ Below w.heap.size w w' := by
 have _ := hL
 have _ := hdp
 have hst : (Tx.non.ev T.text && noNumB T && rowB T.kids [Sh.ev Nd.right .target]) = true := by
  rw [← show _ = (Tx.non.ev T.text && noNumB T && rowB T.kids [Sh.ev Nd.right .target]) from st_at hk (tx := .non) (fm := .row [.target]) rfl lq28 lq28 lq28]; exact hT
 have hro : rowB T.kids [Sh.ev Nd.right .target] = true := (Bool.and_eq_true _ _ ▸ hst).2
 have hlen3 : T.kids.length = 1 := row_len hro
 obtain ⟨t0, hks⟩ := kids_1 (l := T.kids) hlen3
 rw [hks] at hro
 simp only [rowB, Bool.and_eq_true, Bool.and_true] at hro
 have r0 := hro
 have hg0 : T.kids[0]? = some t0 := by rw [hks]; rfl
 obtain ⟨b, off, A0, c0', K0, d0, hKe0, hC0, hN0⟩ := hN.kid hg0
 have hd0 : t0.depth ≤ D ∧ t0.weight ≤ 1000000 := wKM hD hWt t0 (mog hg0)
 rw [Nat.zero_mul, Nat.add_zero] at hC0
 subst hKe0
 have hdc : (((dep + 1 : Nat)) : Int) = (dep : Int) + 1 := by omega
 have hdcw : (((dep + 1 : Nat)) : Int) = IntKind.i64.wrap ((dep : Int) + 1) := by rw [IntKind.wrap_i64]; omega
 have htz : T.lin dep = padL dep ++ [100, 101, 108, 32] ++ t0.txt ++ [10] := by rw [lin_eq]; simp [linOf, hk, kd, hks]
 have HTX := Lh htz
 rw [htz] at hlen
 clear htz
 simp only [length_append, length_cons, length_nil] at hlen
 have hz0 := ba_len (nodeAt_okN t0 hN0) hd0.2
 have HR0 := Lh (fun W (hb : Below w.heap.size w W) => rText_ok D t0 A0 c0' K0 d0 W (ev_tgt r0).te hd0.1 hd0.2 (hN0.later hb))
 have i0 : (0 : Int) < (T.kids.length : Int) := by omega
 have i0' : 0 < T.kids.length := by omega
 obtain ⟨z3, z4, z5, z6⟩ := kz4 hk 3 4 5 6 rfl
 have z7 : (T.kind == 7) = true := by rw [hk]; rfl
 obtain ⟨z8, z9, z10, z11, z12, z13, z14, z15⟩ := kz8 hk 8 9 10 11 12 13 14 15 rfl
 obtain ⟨z16, z17, z18, z20⟩ := kz4 hk 16 17 18 20 rfl
 exact lv22
theorem rl8 (hk : T.kind = 8) (hT : St T) (hD : T.depth ≤ D + 1) (hWt : T.weight ≤ 1000000) (hlen : (T.lin dep).length ≤ 1000000000000) (hN : NodeAt w T A c K d) :
  Calls Tryz.prog 50 #[ndV T A c K d, .int .i64 ((dep : Nat) : Int)] w fun e w' => e = .returned (.string (ba (T.lin dep))) ∧ Below w.heap.size w w' := by
 have _ := hL
 have _ := hdp
 have hst : (Tx.non.ev T.text && noNumB T && rowB T.kids []) = true := by
  exact lv179
 have hro : rowB T.kids [] = true := (Bool.and_eq_true _ _ ▸ hst).2
 have hlen3 : T.kids.length = 0 := row_len hro
 clear hst hro
 have hdc : (((dep + 1 : Nat)) : Int) = (dep : Int) + 1 := by omega
 have hdcw : (((dep + 1 : Nat)) : Int) = IntKind.i64.wrap ((dep : Int) + 1) := by rw [IntKind.wrap_i64]; omega
 have htz : T.lin dep = padL dep ++ [112, 97, 115, 115, 10] := by rw [lin_eq]; simp [linOf, hk, kd]
 have HTX := Lh htz
 rw [htz] at hlen
 clear htz
 simp only [length_append, length_cons, length_nil] at hlen
 obtain ⟨z3, z4, z5, z6, z7⟩ := kz5 hk 3 4 5 6 7 rfl
 have z8 : (T.kind == 8) = true := by rw [hk]; rfl
 obtain ⟨z9, z10, z11, z12, z13, z14, z15, z16⟩ := kz8 hk 9 10 11 12 13 14 15 16 rfl
 obtain ⟨z17, z18, z20⟩ := kz3 hk 17 18 20 rfl
 exact lv33
theorem rl9 (hk : T.kind = 9) (hT : St T) (hD : T.depth ≤ D + 1) (hWt : T.weight ≤ 1000000) (hlen : (T.lin dep).length ≤ 1000000000000) (hN : NodeAt w T A c K d) :
  Calls Tryz.prog 50 #[ndV T A c K d, .int .i64 ((dep : Nat) : Int)] w fun e w' => e = .returned (.string (ba (T.lin dep))) ∧ Below w.heap.size w w' := by
 have _ := hL
 have _ := hdp
 have hst : (Tx.non.ev T.text && noNumB T && rowB T.kids []) = true := by
  exact lv179
 have hro : rowB T.kids [] = true := (Bool.and_eq_true _ _ ▸ hst).2
 have hlen3 : T.kids.length = 0 := row_len hro
 clear hst hro
 have hdc : (((dep + 1 : Nat)) : Int) = (dep : Int) + 1 := by omega
 have hdcw : (((dep + 1 : Nat)) : Int) = IntKind.i64.wrap ((dep : Int) + 1) := by rw [IntKind.wrap_i64]; omega
 have htz : T.lin dep = padL dep ++ [98, 114, 101, 97, 107, 10] := by rw [lin_eq]; simp [linOf, hk, kd]
 have HTX := Lh htz
 rw [htz] at hlen
 clear htz
 simp only [length_append, length_cons, length_nil] at hlen
 obtain ⟨z3, z4, z5, z6, z7, z8⟩ := kz6 hk 3 4 5 6 7 8 rfl
 have z9 : (T.kind == 9) = true := by rw [hk]; rfl
 obtain ⟨z10, z11, z12, z13, z14, z15, z16, z17⟩ := kz8 hk 10 11 12 13 14 15 16 17 rfl
 obtain ⟨z18, z20⟩ := kz2 hk 18 20 rfl
 exact lv33
theorem rl10 (hk : T.kind = 10) (hT : St T) (hD : T.depth ≤ D + 1) (hWt : T.weight ≤ 1000000) (hlen : (T.lin dep).length ≤ 1000000000000) (hN : NodeAt w T A c K d) :
  Calls Tryz.prog 50 #[ndV T A c K d, .int .i64 ((dep : Nat) : Int)] w fun e w' => e = .returned (.string (ba (T.lin dep))) ∧ Below w.heap.size w w' := by
 have _ := hL
 have _ := hdp
 have hst : (Tx.non.ev T.text && noNumB T && rowB T.kids []) = true := by
  exact lv179
 have hro : rowB T.kids [] = true := (Bool.and_eq_true _ _ ▸ hst).2
 have hlen3 : T.kids.length = 0 := row_len hro
 clear hst hro
 have hdc : (((dep + 1 : Nat)) : Int) = (dep : Int) + 1 := by omega
 have hdcw : (((dep + 1 : Nat)) : Int) = IntKind.i64.wrap ((dep : Int) + 1) := by rw [IntKind.wrap_i64]; omega
 have htz : T.lin dep = padL dep ++ [99, 111, 110, 116, 105, 110, 117, 101, 10] := by rw [lin_eq]; simp [linOf, hk, kd]
 have HTX := Lh htz
 rw [htz] at hlen
 clear htz
 simp only [length_append, length_cons, length_nil] at hlen
 obtain ⟨z3, z4, z5, z6, z7, z8, z9⟩ := kz7 hk 3 4 5 6 7 8 9 rfl
 have z10 : (T.kind == 10) = true := by rw [hk]; rfl
 obtain ⟨z11, z12, z13, z14, z15, z16, z17, z18⟩ := kz8 hk 11 12 13 14 15 16 17 18 rfl
 have z20 : (T.kind == 20) = false := by rw [hk]; rfl
 exact lv33
theorem rl11 (hk : T.kind = 11) (hT : St T) (hD : T.depth ≤ D + 1) (hWt : T.weight ≤ 1000000) (hlen : (T.lin dep).length ≤ 1000000000000) (hN : NodeAt w T A c K d) :
  Calls Tryz.prog 50 #[ndV T A c K d, .int .i64 ((dep : Nat) : Int)] w fun e w' => e = .returned (.string (ba (T.lin dep))) ∧ Below w.heap.size w w' := by
 have _ := hL
 have _ := hdp
 have hst : (Tx.non.ev T.text && noNumB T && rowB T.kids [Sh.ev Nd.right (.or2 .none .expr)]) = true := by
  exact lv173
 have hro : rowB T.kids [Sh.ev Nd.right (.or2 .none .expr)] = true := (Bool.and_eq_true _ _ ▸ hst).2
 have hlen3 : T.kids.length = 1 := row_len hro
 obtain ⟨t0, hks⟩ := kids_1 (l := T.kids) hlen3
 rw [hks] at hro
 simp only [rowB, Bool.and_eq_true, Bool.and_true] at hro
 have r0 := hro
 have hg0 : T.kids[0]? = some t0 := by rw [hks]; rfl
 obtain ⟨b, off, A0, c0', K0, d0, hKe0, hC0, hN0⟩ := hN.kid hg0
 have hd0 : t0.depth ≤ D ∧ t0.weight ≤ 1000000 := wKM hD hWt t0 (mog hg0)
 rw [Nat.zero_mul, Nat.add_zero] at hC0
 subst hKe0
 have hdc : (((dep + 1 : Nat)) : Int) = (dep : Int) + 1 := by omega
 have hdcw : (((dep + 1 : Nat)) : Int) = IntKind.i64.wrap ((dep : Int) + 1) := by rw [IntKind.wrap_i64]; omega
 have htz : T.lin dep = padL dep ++ [114, 101, 116, 117, 114, 110] ++ maybeL t0 ++ [10] := by rw [lin_eq]; simp [linOf, hk, kd, hks]
 have HTX := Lh htz
 rw [htz] at hlen
 clear htz
 simp only [length_append, length_cons, length_nil] at hlen
 have hz0 := mbl_len (nodeAt_okN t0 hN0) hd0.2
 have HR0 := Lh (fun W (hb : Below w.heap.size w W) => rMaybe_ok D t0 A0 c0' K0 d0 W (mb_of r0) hd0.1 hd0.2 (hN0.later hb))
 have i0 : (0 : Int) < (T.kids.length : Int) := by omega
 have i0' : 0 < T.kids.length := by omega
 obtain ⟨z3, z4, z5, z6, z7, z8, z9, z10⟩ := kz8 hk 3 4 5 6 7 8 9 10 rfl
 have z11 : (T.kind == 11) = true := by rw [hk]; rfl
 obtain ⟨z12, z13, z14, z15, z16, z17, z18, z20⟩ := kz8 hk 12 13 14 15 16 17 18 20 rfl
 exact lv21
theorem rl12 (hk : T.kind = 12) (hT : St T) (hD : T.depth ≤ D + 1) (hWt : T.weight ≤ 1000000) (hlen : (T.lin dep).length ≤ 1000000000000) (hN : NodeAt w T A c K d) :
  Calls Tryz.prog 50 #[ndV T A c K d, .int .i64 ((dep : Nat) : Int)] w fun e w' => e = .returned (.string (ba (T.lin dep))) ∧ Below w.heap.size w w' := by
 have _ := hL
 have _ := hdp
 have hst : (Tx.non.ev T.text && noNumB T && rowB T.kids [Sh.ev Nd.right (.or2 .none .expr)]) = true := by
  exact lv173
 have hro : rowB T.kids [Sh.ev Nd.right (.or2 .none .expr)] = true := (Bool.and_eq_true _ _ ▸ hst).2
 have hlen3 : T.kids.length = 1 := row_len hro
 obtain ⟨t0, hks⟩ := kids_1 (l := T.kids) hlen3
 rw [hks] at hro
 simp only [rowB, Bool.and_eq_true, Bool.and_true] at hro
 have r0 := hro
 have hg0 : T.kids[0]? = some t0 := by rw [hks]; rfl
 obtain ⟨b, off, A0, c0', K0, d0, hKe0, hC0, hN0⟩ := hN.kid hg0
 have hd0 : t0.depth ≤ D ∧ t0.weight ≤ 1000000 := wKM hD hWt t0 (mog hg0)
 rw [Nat.zero_mul, Nat.add_zero] at hC0
 subst hKe0
 have hdc : (((dep + 1 : Nat)) : Int) = (dep : Int) + 1 := by omega
 have hdcw : (((dep + 1 : Nat)) : Int) = IntKind.i64.wrap ((dep : Int) + 1) := by rw [IntKind.wrap_i64]; omega
 have htz : T.lin dep = padL dep ++ [114, 97, 105, 115, 101] ++ maybeL t0 ++ [10] := by rw [lin_eq]; simp [linOf, hk, kd, hks]
 have HTX := Lh htz
 rw [htz] at hlen
 clear htz
 simp only [length_append, length_cons, length_nil] at hlen
 have hz0 := mbl_len (nodeAt_okN t0 hN0) hd0.2
 have HR0 := Lh (fun W (hb : Below w.heap.size w W) => rMaybe_ok D t0 A0 c0' K0 d0 W (mb_of r0) hd0.1 hd0.2 (hN0.later hb))
 have i0 : (0 : Int) < (T.kids.length : Int) := by omega
 have i0' : 0 < T.kids.length := by omega
 obtain ⟨z3, z4, z5, z6, z7, z8, z9, z10⟩ := kz8 hk 3 4 5 6 7 8 9 10 rfl
 have z11 : (T.kind == 11) = false := by rw [hk]; rfl
 have z12 : (T.kind == 12) = true := by rw [hk]; rfl
 obtain ⟨z13, z14, z15, z16, z17, z18, z20⟩ := kz7 hk 13 14 15 16 17 18 20 rfl
 exact lv21
end

section
variable (D : Nat) (hL : RLOk D) (dep : Nat) (hdp : dep + (D + 1) ≤ 1000000) (T : Nd) (A : Option Addr) (c : Nat) (K : Option Addr) (d : Nat) (w : World)
include D hL dep hdp T A c K d w
theorem rl4 (hk : T.kind = 4) (hT : St T) (hD : T.depth ≤ D + 1) (hWt : T.weight ≤ 1000000) (hlen : (T.lin dep).length ≤ 1000000000000) (hN : NodeAt w T A c K d) :
  Calls Tryz.prog 50 #[ndV T A c K d, .int .i64 ((dep : Nat) : Int)] w fun e w' => e = .returned (.string (ba (T.lin dep))) ∧ Below w.heap.size w w' := by
 have _ := hL
 have _ := hdp
 have hst : (Tx.non.ev T.text && noNumB T && rowB T.kids [Sh.ev Nd.right .target, Sh.ev Nd.right .expr]) = true := by
  exact lv169
 have hro : rowB T.kids [Sh.ev Nd.right .target, Sh.ev Nd.right .expr] = true := (Bool.and_eq_true _ _ ▸ hst).2
 have hlen3 : T.kids.length = 2 := row_len hro
 obtain ⟨t0, t1, hks⟩ := kids_2 (l := T.kids) hlen3
 rw [hks] at hro
 simp only [rowB, Bool.and_eq_true, Bool.and_true] at hro
 obtain ⟨r0, r1⟩ := hro
 have hg0 : T.kids[0]? = some t0 := by rw [hks]; rfl
 obtain ⟨b, off, A0, c0', K0, d0, hKe0, hC0, hN0⟩ := hN.kid hg0
 have hd0 : t0.depth ≤ D ∧ t0.weight ≤ 1000000 := wKM hD hWt t0 (mog hg0)
 have hg1 : T.kids[1]? = some t1 := by rw [hks]; rfl
 obtain ⟨b1, off1, A1, c1', K1, d1, hKe1, hC1, hN1⟩ := hN.kid hg1
 have hd1 : t1.depth ≤ D ∧ t1.weight ≤ 1000000 := wKM hD hWt t1 (mog hg1)
 rw [Nat.zero_mul, Nat.add_zero] at hC0
 subst hKe0
 injection hKe1 with e1
 injection e1 with e1 e2
 subst e1 e2
 rw [show 1 * 6 = 6 from rfl] at hC1
 have hdc : (((dep + 1 : Nat)) : Int) = (dep : Int) + 1 := by omega
 have hdcw : (((dep + 1 : Nat)) : Int) = IntKind.i64.wrap ((dep : Int) + 1) := by rw [IntKind.wrap_i64]; omega
 have htz : T.lin dep = padL dep ++ t0.txt ++ [32, 61, 32] ++ t1.txt ++ [10] := by rw [lin_eq]; simp [linOf, hk, kd, gy, hks]
 have HTX := Lh htz
 rw [htz] at hlen
 clear htz
 simp only [length_append, length_cons, length_nil] at hlen
 have hz0 := ba_len (nodeAt_okN t0 hN0) hd0.2
 have HR0 := Lh (fun W (hb : Below w.heap.size w W) => rText_ok D t0 A0 c0' K0 d0 W (ev_tgt r0).te hd0.1 hd0.2 (hN0.later hb))
 have i0 : (0 : Int) < (T.kids.length : Int) := by omega
 have i0' : 0 < T.kids.length := by omega
 have hz1 := ba_len (nodeAt_okN t1 hN1) hd1.2
 have HR1 := Lh (fun W (hb : Below w.heap.size w W) => rText_ok D t1 A1 c1' K1 d1 W (ev_ex r1).te hd1.1 hd1.2 (hN1.later hb))
 have i1 : (1 : Int) < (T.kids.length : Int) := by omega
 have i1' : 1 < T.kids.length := by omega
 have z3 : (T.kind == 3) = false := by rw [hk]; rfl
 have z4 : (T.kind == 4) = true := by rw [hk]; rfl
 obtain ⟨z5, z6, z7, z8, z9, z10, z11, z12⟩ := kz8 hk 5 6 7 8 9 10 11 12 rfl
 obtain ⟨z13, z14, z15, z16, z17, z18, z20⟩ := kz7 hk 13 14 15 16 17 18 20 rfl
 exact lv8
theorem rl5 (hk : T.kind = 5) (hT : St T) (hD : T.depth ≤ D + 1) (hWt : T.weight ≤ 1000000) (hlen : (T.lin dep).length ≤ 1000000000000) (hN : NodeAt w T A c K d) :
  Calls Tryz.prog 50 #[ndV T A c K d, .int .i64 ((dep : Nat) : Int)] w fun e w' => e = .returned (.string (ba (T.lin dep))) ∧ Below w.heap.size w w' := by
 have _ := hL
 have _ := hdp
 have hst : (Tx.non.ev T.text && noNumB T && rowB T.kids [Sh.ev Nd.right (.of 23), Sh.ev Nd.right .expr]) = true := by
  exact lv168
 have hro : rowB T.kids [Sh.ev Nd.right (.of 23), Sh.ev Nd.right .expr] = true := (Bool.and_eq_true _ _ ▸ hst).2
 have hlen3 : T.kids.length = 2 := row_len hro
 obtain ⟨t0, t1, hks⟩ := kids_2 (l := T.kids) hlen3
 rw [hks] at hro
 simp only [rowB, Bool.and_eq_true, Bool.and_true] at hro
 obtain ⟨r0, r1⟩ := hro
 have hg0 : T.kids[0]? = some t0 := by rw [hks]; rfl
 obtain ⟨b, off, A0, c0', K0, d0, hKe0, hC0, hN0⟩ := hN.kid hg0
 have hd0 : t0.depth ≤ D ∧ t0.weight ≤ 1000000 := wKM hD hWt t0 (mog hg0)
 have hg1 : T.kids[1]? = some t1 := by rw [hks]; rfl
 obtain ⟨b1, off1, A1, c1', K1, d1, hKe1, hC1, hN1⟩ := hN.kid hg1
 have hd1 : t1.depth ≤ D ∧ t1.weight ≤ 1000000 := wKM hD hWt t1 (mog hg1)
 rw [Nat.zero_mul, Nat.add_zero] at hC0
 subst hKe0
 injection hKe1 with e1
 injection e1 with e1 e2
 subst e1 e2
 rw [show 1 * 6 = 6 from rfl] at hC1
 have hdc : (((dep + 1 : Nat)) : Int) = (dep : Int) + 1 := by omega
 have hdcw : (((dep + 1 : Nat)) : Int) = IntKind.i64.wrap ((dep : Int) + 1) := by rw [IntKind.wrap_i64]; omega
 have htz : T.lin dep = padL dep ++ t0.txt ++ [32, 61, 32] ++ t1.txt ++ [10] := by rw [lin_eq]; simp [linOf, hk, kd, gy, hks]
 have HTX := Lh htz
 rw [htz] at hlen
 clear htz
 simp only [length_append, length_cons, length_nil] at hlen
 have hz0 := ba_len (nodeAt_okN t0 hN0) hd0.2
 have HR0 := Lh (fun W (hb : Below w.heap.size w W) => rText_ok D t0 A0 c0' K0 d0 W (tgt_23 r0) hd0.1 hd0.2 (hN0.later hb))
 have i0 : (0 : Int) < (T.kids.length : Int) := by omega
 have i0' : 0 < T.kids.length := by omega
 have hz1 := ba_len (nodeAt_okN t1 hN1) hd1.2
 have HR1 := Lh (fun W (hb : Below w.heap.size w W) => rText_ok D t1 A1 c1' K1 d1 W (ev_ex r1).te hd1.1 hd1.2 (hN1.later hb))
 have i1 : (1 : Int) < (T.kids.length : Int) := by omega
 have i1' : 1 < T.kids.length := by omega
 obtain ⟨z3, z4⟩ := kz2 hk 3 4 rfl
 have z5 : (T.kind == 5) = true := by rw [hk]; rfl
 obtain ⟨z6, z7, z8, z9, z10, z11, z12, z13⟩ := kz8 hk 6 7 8 9 10 11 12 13 rfl
 obtain ⟨z14, z15, z16, z17, z18, z20⟩ := kz6 hk 14 15 16 17 18 20 rfl
 exact lv8
end

theorem rl6 (D : Nat) (hL : RLOk D) (dep : Nat) (hdp : dep + (D + 1) ≤ 1000000) (T : Nd) (A : Option Addr) (c : Nat) (K : Option Addr) (d : Nat) (w : World) (hk : T.kind = 6) (hT : St T) (hD : T.depth ≤ D + 1) (hWt : T.weight ≤ 1000000) (hlen : (T.lin dep).length ≤ 1000000000000) (hN : NodeAt w T A c K d) :
  Calls Tryz.prog 50 #[ndV T A c K d, .int .i64 ((dep : Nat) : Int)] w fun e w' => e = .returned (.string (ba (T.lin dep))) ∧ Below w.heap.size w w' := by
 have hst : ((Tx.words signsL).ev T.text && noNumB T && rowB T.kids [Sh.ev Nd.right .target, Sh.ev Nd.right .expr]) = true := by
  exact lv165
 have hro : rowB T.kids [Sh.ev Nd.right .target, Sh.ev Nd.right .expr] = true := (Bool.and_eq_true _ _ ▸ hst).2
 have hlen3 : T.kids.length = 2 := row_len hro
 obtain ⟨t0, t1, hks⟩ := kids_2 (l := T.kids) hlen3
 rw [hks] at hro
 simp only [rowB, Bool.and_eq_true, Bool.and_true] at hro
 obtain ⟨r0, r1⟩ := hro
 have hg0 : T.kids[0]? = some t0 := by rw [hks]; rfl
 obtain ⟨b, off, A0, c0', K0, d0, hKe0, hC0, hN0⟩ := hN.kid hg0
 have hd0 : t0.depth ≤ D ∧ t0.weight ≤ 1000000 := wKM hD hWt t0 (mog hg0)
 have hg1 : T.kids[1]? = some t1 := by rw [hks]; rfl
 obtain ⟨b1, off1, A1, c1', K1, d1, hKe1, hC1, hN1⟩ := hN.kid hg1
 have hd1 : t1.depth ≤ D ∧ t1.weight ≤ 1000000 := wKM hD hWt t1 (mog hg1)
 rw [Nat.zero_mul, Nat.add_zero] at hC0
 subst hKe0
 injection hKe1 with e1
 injection e1 with e1 e2
 subst e1 e2
 rw [show 1 * 6 = 6 from rfl] at hC1
 have hdc : (((dep + 1 : Nat)) : Int) = (dep : Int) + 1 := by omega
 have hdcw : (((dep + 1 : Nat)) : Int) = IntKind.i64.wrap ((dep : Int) + 1) := by rw [IntKind.wrap_i64]; omega
 have htz : T.lin dep = padL dep ++ t0.txt ++ [32] ++ tx T ++ [61, 32] ++ t1.txt ++ [10] := by rw [lin_eq]; simp [linOf, hk, kd, gy, hks]
 have HTX := Lh htz
 rw [htz] at hlen
 clear htz
 simp only [length_append, length_cons, length_nil] at hlen
 have hz0 := ba_len (nodeAt_okN t0 hN0) hd0.2
 have HR0 := Lh (fun W (hb : Below w.heap.size w W) => rText_ok D t0 A0 c0' K0 d0 W (ev_tgt r0).te hd0.1 hd0.2 (hN0.later hb))
 have i0 : (0 : Int) < (T.kids.length : Int) := by omega
 have i0' : 0 < T.kids.length := by omega
 have hz1 := ba_len (nodeAt_okN t1 hN1) hd1.2
 have HR1 := Lh (fun W (hb : Below w.heap.size w W) => rText_ok D t1 A1 c1' K1 d1 W (ev_ex r1).te hd1.1 hd1.2 (hN1.later hb))
 have i1 : (1 : Int) < (T.kids.length : Int) := by omega
 have i1' : 1 < T.kids.length := by omega
 have hzx : T.text.size ≤ 1000000 := by have := T.weight_eq; omega
 obtain ⟨z3, z4, z5⟩ := kz3 hk 3 4 5 rfl
 have z6 : (T.kind == 6) = true := by rw [hk]; rfl
 obtain ⟨z7, z8, z9, z10, z11, z12, z13, z14⟩ := kz8 hk 7 8 9 10 11 12 13 14 rfl
 obtain ⟨z15, z16, z17, z18, z20⟩ := kz5 hk 15 16 17 18 20 rfl
 obtain ⟨hm1, hm2, hrm, hw32, hk1, hk2, ⟨hk64a, hk64b⟩, ⟨ha64a, ha64b⟩, hts, hKs, HK⟩ := hN.hd
 obtain ⟨hb1, c0, c1, c2, c3, c4, c5⟩ := bxn w T A c (some ⟨b, off, none⟩) d
 obtain ⟨n00, n01, n02, n03, n04, n05⟩ := hC0.later hb1
 have hlk0 := blt n00
 obtain ⟨n10, n11, n12, n13, n14, n15⟩ := hC1.later hb1
 have hlk1 := blt n10
 unfold ndV
 clear hKs hN hT hD hWt hrm hw32 hk hlen hts hL hdc hdcw hst hlen3 hks hg0 hN0 hd0 r0 hg1 hN1 hd1 r1 
 go_enter Tryz.func50, Tryz.ntmps50
 go_wp2_with fail
 generalize w.alloc (bx T.kind T A c (some ⟨b, off, none⟩) d) = w1 at *
 have hlb1 := blt c0
 have hs0 := fun W (hb : Below w1.heap.size w1 W) => HR0.out W (hb1.trans (hb.mono hb1.size))
 unfold ndV at hs0
 have HS0 := Lh hs0
 clear hs0
 have hs1 := fun W (hb : Below w1.heap.size w1 W) => HR1.out W (hb1.trans (hb.mono hb1.size))
 unfold ndV at hs1
 have HS1 := Lh hs1
 clear hs1
 go_loopw [5, 6] (fun sv iv wr => ∃ k : Nat, iv = .int .i64 k ∧ sv = .string (ba (padL k)) ∧ k ≤ dep ∧ w1 = wr) (fun _ iv _ => dep - (intOf iv).toNat)
 case atStart => exact ⟨0, rfl, rfl, Nat.zero_le _, rfl⟩
 case round =>
  obtain ⟨k, rfl, rfl, hkd, rfl⟩ := hrel; have hzk : (ba (padL k)).size ≤ 1000000 := by rw [ba_size, padL_len]; omega
  by_cases hkl : k < dep
  ·exact lv124
  ·have o1 : decide ((k : Int) < (dep : Int)) = false := dFo; have o2 : decide (k < dep) = false := dFa hkl; obtain ⟨Z, hZ⟩ : ∃ Z, ba (padL k) = Z := ⟨_, rfl⟩; have HZ := Lh (show ba (padL dep) = Z by rw [← hZ, show k = dep by omega]); rw [hZ] at hzk ⊢; clear hZ hkl hkd; go_wp2_with fail; have hqs0 : ({ data := #[32] } : ByteArray).size = 1 := rfl; have hqs1 : ({ data := #[61, 32] } : ByteArray).size = 2 := rfl; have hqs2 : ({ data := #[10] } : ByteArray).size = 1 := rfl; have had0 := fun (W : World) => run_string_add_sum (P := Tryz.prog) (w := W) (Z) (ba t0.txt) lq18
   have had1 := fun (W : World) => run_string_add_sum (P := Tryz.prog) (w := W) (Z ++ ba t0.txt) (({ data := #[32] } : ByteArray)) lq18
   have had2 := fun (W : World) => run_string_add_sum (P := Tryz.prog) (w := W) (Z ++ ba t0.txt ++ ({ data := #[32] } : ByteArray)) (T.text) lq18
   have had3 := fun (W : World) => run_string_add_sum (P := Tryz.prog) (w := W) (Z ++ ba t0.txt ++ ({ data := #[32] } : ByteArray) ++ T.text) (({ data := #[61, 32] } : ByteArray)) lq18
   have had4 := fun (W : World) => run_string_add_sum (P := Tryz.prog) (w := W) (Z ++ ba t0.txt ++ ({ data := #[32] } : ByteArray) ++ T.text ++ ({ data := #[61, 32] } : ByteArray)) (ba t1.txt) lq18
   have had5 := fun (W : World) => run_string_add_sum (P := Tryz.prog) (w := W) (Z ++ ba t0.txt ++ ({ data := #[32] } : ByteArray) ++ T.text ++ ({ data := #[61, 32] } : ByteArray) ++ ba t1.txt) (({ data := #[10] } : ByteArray)) lq18
   clear hqs0 hqs1 hqs2; have HPK := fun (W : World) (h : Below w1.heap.size w1 W) => show _ ∧ _ ∧ _ ∧ _ ∧ _ ∧ _ ∧ _ ∧ _ ∧ _ ∧ _ ∧ _ ∧ _ ∧ _ ∧ _ ∧ _ from ⟨cLt h n00, cLt h n01, cLt h n02, cLt h n03, cLt h n04, cLt h n05, cLt h n10, cLt h n11, cLt h n12, cLt h n13, cLt h n14, cLt h n15, cLt h c2, Nat.lt_of_lt_of_le hlk0 h.size, Nat.lt_of_lt_of_le hlb1 h.size⟩
   go_region_held3 (fun W => W.cell? ⟨b, off, none⟩ = some (.int .i64 t0.kind) ∧ W.cell? ⟨b, off + 1, none⟩ = some (.int .i64 t0.pos) ∧ W.cell? ⟨b, off + 2, none⟩ = some (.string t0.text) ∧ W.cell? ⟨b, off + 3, none⟩ = some (.bool t0.neg) ∧ W.cell? ⟨b, off + 4, none⟩ = some (.slice A0 t0.mag.length c0') ∧ W.cell? ⟨b, off + 5, none⟩ = some (.slice K0 t0.kids.length d0) ∧ W.cell? ⟨b, off + 6, none⟩ = some (.int .i64 t1.kind) ∧ W.cell? ⟨b, off + 6 + 1, none⟩ = some (.int .i64 t1.pos) ∧ W.cell? ⟨b, off + 6 + 2, none⟩ = some (.string t1.text) ∧ W.cell? ⟨b, off + 6 + 3, none⟩ = some (.bool t1.neg) ∧ W.cell? ⟨b, off + 6 + 4, none⟩ = some (.slice A1 t1.mag.length c1') ∧ W.cell? ⟨b, off + 6 + 5, none⟩ = some (.slice K1 t1.kids.length d1) ∧ W.cell? ⟨w.heap.size, 2, none⟩ = some (.string T.text) ∧ b < W.heap.size ∧ w.heap.size < W.heap.size) (first | (refine HPK _ ?_; (repeat' (first | with_reducible exact H1 | with_reducible exact H0 | with_reducible exact Below.refl _ _ | (with_reducible refine below_drew ?_))))) (first | (go_at_call 99; (with_reducible refine (HS0.out _ ?hbel).mono ?_); (case hbel => (repeat' (first  | with_reducible exact Below.refl _ _ | (with_reducible refine below_drew ?_)))); rintro e w_0 ⟨rfl, hq_0⟩; have H0 := below_then (w1 := w1) hq_0 lq14) | (go_at_call 99; (with_reducible refine (HS1.out _ ?hbel).mono ?_); (case hbel => (repeat' (first | with_reducible exact H0 | with_reducible exact Below.refl _ _ | (with_reducible refine below_drew ?_)))); rintro e w_1 ⟨rfl, hq_1⟩; have H1 := below_then (w1 := w1) hq_1 lq12) )
   all_goals
    go_wp2; go_ret; exact ⟨by rw [HTX.out]; (try simp only [← ba_app, ba_text, HZ.out]); rfl, hb1.trans (H1.mono hb1.size)⟩
theorem rl16 (D : Nat) (hL : RLOk D) (dep : Nat) (hdp : dep + (D + 1) ≤ 1000000) (T : Nd) (A : Option Addr) (c : Nat) (K : Option Addr) (d : Nat) (w : World) (hk : T.kind = 16) (hT : St T) (hD : T.depth ≤ D + 1) (hWt : T.weight ≤ 1000000) (hlen : (T.lin dep).length ≤ 1000000000000) (hN : NodeAt w T A c K d) :
  Calls Tryz.prog 50 #[ndV T A c K d, .int .i64 ((dep : Nat) : Int)] w fun e w' => e = .returned (.string (ba (T.lin dep))) ∧ Below w.heap.size w w' := by
 have hst : (Tx.non.ev T.text && noNumB T && rowB T.kids [Sh.ev Nd.right .expr, Sh.ev Nd.right .block]) = true := by
  exact lv171
 have hro : rowB T.kids [Sh.ev Nd.right .expr, Sh.ev Nd.right .block] = true := (Bool.and_eq_true _ _ ▸ hst).2
 have hlen3 : T.kids.length = 2 := row_len hro
 obtain ⟨t0, t1, hks⟩ := kids_2 (l := T.kids) hlen3
 rw [hks] at hro
 simp only [rowB, Bool.and_eq_true, Bool.and_true] at hro
 obtain ⟨r0, r1⟩ := hro
 have hg0 : T.kids[0]? = some t0 := by rw [hks]; rfl
 obtain ⟨b, off, A0, c0', K0, d0, hKe0, hC0, hN0⟩ := hN.kid hg0
 have hd0 : t0.depth ≤ D ∧ t0.weight ≤ 1000000 := wKM hD hWt t0 (mog hg0)
 have hg1 : T.kids[1]? = some t1 := by rw [hks]; rfl
 obtain ⟨b1, off1, A1, c1', K1, d1, hKe1, hC1, hN1⟩ := hN.kid hg1
 have hd1 : t1.depth ≤ D ∧ t1.weight ≤ 1000000 := wKM hD hWt t1 (mog hg1)
 rw [Nat.zero_mul, Nat.add_zero] at hC0
 subst hKe0
 injection hKe1 with e1
 injection e1 with e1 e2
 subst e1 e2
 rw [show 1 * 6 = 6 from rfl] at hC1
 have hdc : (((dep + 1 : Nat)) : Int) = (dep : Int) + 1 := by omega
 have hdcw : (((dep + 1 : Nat)) : Int) = IntKind.i64.wrap ((dep : Int) + 1) := by rw [IntKind.wrap_i64]; omega
 have htz : T.lin dep = padL dep ++ [119, 104, 105, 108, 101, 32] ++ t0.txt ++ [58, 10] ++ t1.lin (dep + 1) := by rw [lin_eq]; simp [linOf, hk, kd, gy, hks]
 have HTX := Lh htz
 rw [htz] at hlen
 clear htz
 simp only [length_append, length_cons, length_nil] at hlen
 have hl1 : (t1.lin (dep + 1)).length ≤ 1000000000000 := by omega
 have hz0 := ba_len (nodeAt_okN t0 hN0) hd0.2
 have HR0 := Lh (fun W (hb : Below w.heap.size w W) => rText_ok D t0 A0 c0' K0 d0 W (ev_ex r0).te hd0.1 hd0.2 (hN0.later hb))
 have i0 : (0 : Int) < (T.kids.length : Int) := by omega
 have i0' : 0 < T.kids.length := by omega
 have hz1 : (ba (t1.lin (dep + 1))).size ≤ 1000000000000 := by rw [ba_size]; exact hl1
 have hr1 := (fun W (hb : Below w.heap.size w W) => rWithin_ok D (dep + 1) lq29 hL t1 A1 c1' K1 d1 W (blk_of r1) lq29 hd1.2 hl1 (hN1.later hb))
 simp only [hdcw] at hr1
 have HR1 := Lh hr1
 clear hr1
 have i1 : (1 : Int) < (T.kids.length : Int) := by omega
 have i1' : 1 < T.kids.length := by omega
 obtain ⟨z3, z4, z5, z6, z7, z8, z9, z10⟩ := kz8 hk 3 4 5 6 7 8 9 10 rfl
 obtain ⟨z11, z12, z13, z14, z15⟩ := kz5 hk 11 12 13 14 15 rfl
 have z16 : (T.kind == 16) = true := by rw [hk]; rfl
 obtain ⟨z17, z18, z20⟩ := kz3 hk 17 18 20 rfl
 obtain ⟨hm1, hm2, hrm, hw32, hk1, hk2, ⟨hk64a, hk64b⟩, ⟨ha64a, ha64b⟩, hts, hKs, HK⟩ := hN.hd
 obtain ⟨hb1, c0, c1, c2, c3, c4, c5⟩ := bxn w T A c (some ⟨b, off, none⟩) d
 obtain ⟨n00, n01, n02, n03, n04, n05⟩ := hC0.later hb1
 have hlk0 := blt n00
 obtain ⟨n10, n11, n12, n13, n14, n15⟩ := hC1.later hb1
 have hlk1 := blt n10
 unfold ndV
 clear hKs hN hT hD hWt hrm hw32 hk hlen hts hL hdc hdcw hst hlen3 hks hg0 hN0 hd0 r0 hg1 hN1 hd1 r1 
 go_enter Tryz.func50, Tryz.ntmps50
 go_wp2_with fail
 generalize w.alloc (bx T.kind T A c (some ⟨b, off, none⟩) d) = w1 at *
 have hlb1 := blt c0
 have hs0 := fun W (hb : Below w1.heap.size w1 W) => HR0.out W (hb1.trans (hb.mono hb1.size))
 unfold ndV at hs0
 have HS0 := Lh hs0
 clear hs0
 have hs1 := fun W (hb : Below w1.heap.size w1 W) => HR1.out W (hb1.trans (hb.mono hb1.size))
 unfold ndV at hs1
 have HS1 := Lh hs1
 clear hs1
 go_loopw [5, 6] (fun sv iv wr => ∃ k : Nat, iv = .int .i64 k ∧ sv = .string (ba (padL k)) ∧ k ≤ dep ∧ w1 = wr) (fun _ iv _ => dep - (intOf iv).toNat)
 case atStart => exact ⟨0, rfl, rfl, Nat.zero_le _, rfl⟩
 case round =>
  obtain ⟨k, rfl, rfl, hkd, rfl⟩ := hrel; have hzk : (ba (padL k)).size ≤ 1000000 := by rw [ba_size, padL_len]; omega
  by_cases hkl : k < dep
  ·exact lv124
  ·have o1 : decide ((k : Int) < (dep : Int)) = false := dFo; have o2 : decide (k < dep) = false := dFa hkl; obtain ⟨Z, hZ⟩ : ∃ Z, ba (padL k) = Z := ⟨_, rfl⟩; have HZ := Lh (show ba (padL dep) = Z by rw [← hZ, show k = dep by omega]); rw [hZ] at hzk ⊢; clear hZ hkl hkd; go_wp2_with fail; have hqs0 : ({ data := #[119, 104, 105, 108, 101, 32] } : ByteArray).size = 6 := rfl; have hqs1 : ({ data := #[58, 10] } : ByteArray).size = 2 := rfl; have had0 := fun (W : World) => run_string_add_sum (P := Tryz.prog) (w := W) (Z) (({ data := #[119, 104, 105, 108, 101, 32] } : ByteArray)) lq18
   have had1 := fun (W : World) => run_string_add_sum (P := Tryz.prog) (w := W) (Z ++ ({ data := #[119, 104, 105, 108, 101, 32] } : ByteArray)) (ba t0.txt) lq18
   have had2 := fun (W : World) => run_string_add_sum (P := Tryz.prog) (w := W) (Z ++ ({ data := #[119, 104, 105, 108, 101, 32] } : ByteArray) ++ ba t0.txt) (({ data := #[58, 10] } : ByteArray)) lq18
   have had3 := fun (W : World) => run_string_add_sum (P := Tryz.prog) (w := W) (Z ++ ({ data := #[119, 104, 105, 108, 101, 32] } : ByteArray) ++ ba t0.txt ++ ({ data := #[58, 10] } : ByteArray)) (ba (t1.lin (dep + 1))) lq18
   clear hqs0 hqs1; have HPK := fun (W : World) (h : Below w1.heap.size w1 W) => show _ ∧ _ ∧ _ ∧ _ ∧ _ ∧ _ ∧ _ ∧ _ ∧ _ ∧ _ ∧ _ ∧ _ ∧ _ from ⟨cLt h n00, cLt h n01, cLt h n02, cLt h n03, cLt h n04, cLt h n05, cLt h n10, cLt h n11, cLt h n12, cLt h n13, cLt h n14, cLt h n15, Nat.lt_of_lt_of_le hlk0 h.size⟩
   go_region_held3 (fun W => W.cell? ⟨b, off, none⟩ = some (.int .i64 t0.kind) ∧ W.cell? ⟨b, off + 1, none⟩ = some (.int .i64 t0.pos) ∧ W.cell? ⟨b, off + 2, none⟩ = some (.string t0.text) ∧ W.cell? ⟨b, off + 3, none⟩ = some (.bool t0.neg) ∧ W.cell? ⟨b, off + 4, none⟩ = some (.slice A0 t0.mag.length c0') ∧ W.cell? ⟨b, off + 5, none⟩ = some (.slice K0 t0.kids.length d0) ∧ W.cell? ⟨b, off + 6, none⟩ = some (.int .i64 t1.kind) ∧ W.cell? ⟨b, off + 6 + 1, none⟩ = some (.int .i64 t1.pos) ∧ W.cell? ⟨b, off + 6 + 2, none⟩ = some (.string t1.text) ∧ W.cell? ⟨b, off + 6 + 3, none⟩ = some (.bool t1.neg) ∧ W.cell? ⟨b, off + 6 + 4, none⟩ = some (.slice A1 t1.mag.length c1') ∧ W.cell? ⟨b, off + 6 + 5, none⟩ = some (.slice K1 t1.kids.length d1) ∧ b < W.heap.size) (first | (refine HPK _ ?_; (repeat' (first | with_reducible exact H1 | with_reducible exact H0 | with_reducible exact Below.refl _ _ | (with_reducible refine below_drew ?_))))) (first | (go_at_call 99; (with_reducible refine (HS0.out _ ?hbel).mono ?_); (case hbel => (repeat' (first  | with_reducible exact Below.refl _ _ | (with_reducible refine below_drew ?_)))); rintro e w_0 ⟨rfl, hq_0⟩; have H0 := below_then (w1 := w1) hq_0 lq14) | (go_at_call 36; (with_reducible refine (HS1.out _ ?hbel).mono ?_); (case hbel => (repeat' (first | with_reducible exact H0 | with_reducible exact Below.refl _ _ | (with_reducible refine below_drew ?_)))); rintro e w_1 ⟨rfl, hq_1⟩; have H1 := below_then (w1 := w1) hq_1 lq12) )
   all_goals
    go_wp2; go_ret; exact ⟨by rw [HTX.out]; (try simp only [← ba_app, ba_text, HZ.out]); rfl, hb1.trans (H1.mono hb1.size)⟩
end
end Go.Proofs.YtjefhdlncikhmaaGreatDoor
