/- Joined by a program: Q4c, Q4d, Q4. -/
import Derived.Test.YtjefhdlncikhmaaGreatDoorPT15
namespace Go.Proofs.YtjefhdlncikhmaaGreatDoor
set_option linter.unusedVariables false
set_option linter.unusedSimpArgs false
set_option maxRecDepth 1000000
set_option maxHeartbeats 16000000
section
open Go.RowKit
open List (length_append length_cons length_nil length_singleton)
section
variable (D : Nat) (hE : RExprOk D) (T : Nd) (A : Option Addr) (c : Nat) (K : Option Addr) (d : Nat) (w : World)
include D hE T A c K d w
theorem rx50 (hk : T.kind = 50) (hD : T.depth ≤ D + 1) (hW : T.weight ≤ 1000000) (hN : NodeAt w T A c K d) :
  Calls Tryz.prog 91 #[ndV T A c K d] w fun e w' => e = .returned (.bool (Sh.expr.ev Nd.right T)) ∧ Below w.heap.size w w' := by
 have _ := hE
 exact lv6
theorem rx44 (hk : T.kind = 44) (hD : T.depth ≤ D + 1) (hW : T.weight ≤ 1000000) (hN : NodeAt w T A c K d) :
  Calls Tryz.prog 91 #[ndV T A c K d] w fun e w' => e = .returned (.bool (Sh.expr.ev Nd.right T)) ∧ Below w.heap.size w w' := by
 have HBa := Lh (fun W (hb : Below w.heap.size w W) => by
  have := rBare_ok T A c K d W (hN.later hb); unfold ndV at this; rw [hk] at this
  exact this)
 have HTE := Lh (text_empty T.text)
 have HEx := Lh (fun W (hb : Below w.heap.size w W) => rExprs_ok D hE T.kids T.kids.length K d W rfl (hN.parts.2.2.2.2.2.2.2.2.2.later hb) (wKM hD hW) hN.parts.2.2.2.2.1 hN.parts.2.2.2.2.2.1)
 have HEV := Lh (show Sh.expr.ev Nd.right T = ((noNumB T) && ((T.text.size == 0)) && ((T.kids.length == 3)) && (T.kids.all (Sh.expr.ev Nd.right))) by
  rw [ex_at hk (tx := .non) (fm := .row [.expr, .expr, .expr]) rfl lq28 lq28 lq28 lq28]
  show (_ && _ && rowB T.kids [Sh.expr.ev Nd.right, Sh.expr.ev Nd.right, Sh.expr.ev Nd.right]) = _
  rw [rowB_three]
  simp [Tx.ev, Bool.and_assoc, Bool.and_comm, Bool.and_left_comm])
 cases hc0 : noNumB T with
 | true =>
  have G0 := Lh hc0; clear hc0
  by_cases h1' : T.text.size = 0
  ·have g1 : (T.text.size == 0) = true := by simp [h1']
   have et : T.text.toList.isEmpty = true := by rw [HTE.out, g1]
   by_cases h2' : T.kids.length = 3
   ·have g2 : (T.kids.length == 3) = true := by simp [h2']
    have el : ((T.kids.length : Int) == 3) = true := by rw [h2']; rfl
    cases hc3 : T.kids.all (Sh.expr.ev Nd.right) with
    | true =>
     exact lv69
    | false =>
     exact lv68
   ·have g2 : (T.kids.length == 3) = false := by simp [h2']
    have el : ((T.kids.length : Int) == 3) = false := bFo; have HV := Lh (show Sh.expr.ev Nd.right T = false by rw [HEV.out]; simp [G0.out, g1, g2]); clear h1' h2'; exact lv108
  ·exact lv91
 | false =>
  exact lv97
theorem rx51 (hk : T.kind = 51) (hD : T.depth ≤ D + 1) (hW : T.weight ≤ 1000000) (hN : NodeAt w T A c K d) :
  Calls Tryz.prog 91 #[ndV T A c K d] w fun e w' => e = .returned (.bool (Sh.expr.ev Nd.right T)) ∧ Below w.heap.size w w' := by
 have HBa := Lh (fun W (hb : Below w.heap.size w W) => by
  have := rBare_ok T A c K d W (hN.later hb); unfold ndV at this; rw [hk] at this
  exact this)
 have HTE := Lh (text_empty T.text)
 have HCl := Lh (fun W (hb : Below w.heap.size w W) => rCall_ok D hE T.kids T.kids.length K d W rfl (hN.parts.2.2.2.2.2.2.2.2.2.later hb) (wKM hD hW) hN.parts.2.2.2.2.1 hN.parts.2.2.2.2.2.1)
 have HEV := Lh (show Sh.expr.ev Nd.right T = ((noNumB T) && ((T.text.size == 0)) && (callL T.kids)) by
  rw [ex_at hk (tx := .non) (fm := .cll) rfl lq28 lq28 lq28 lq28]; rw [cll_eq]
  simp [Tx.ev, Bool.and_assoc, Bool.and_comm, Bool.and_left_comm])
 cases hc0 : noNumB T with
 | true =>
  have G0 := Lh hc0; clear hc0
  by_cases h1' : T.text.size = 0
  ·have g1 : (T.text.size == 0) = true := by simp [h1']
   have et : T.text.toList.isEmpty = true := by rw [HTE.out, g1]
   cases hc2 : callL T.kids with
   | true =>
    have G2 := Lh hc2; clear hc2; have HV := Lh (show Sh.expr.ev Nd.right T = true by rw [HEV.out]; simp [G0.out, g1, G2.out]); exact lv82
   | false =>
    have G2 := Lh hc2; clear hc2; have HV := Lh (show Sh.expr.ev Nd.right T = false by rw [HEV.out]; simp [G0.out, g1, G2.out]); exact lv82
  ·exact lv91
 | false =>
  exact lv97
theorem rx32 (hk : T.kind = 32) (hD : T.depth ≤ D + 1) (hW : T.weight ≤ 1000000) (hN : NodeAt w T A c K d) :
  Calls Tryz.prog 91 #[ndV T A c K d] w fun e w' => e = .returned (.bool (Sh.expr.ev Nd.right T)) ∧ Below w.heap.size w w' := by
 have _ := hE
 have HTE := Lh (text_empty T.text)
 have HNu := Lh (fun W (hb : Below w.heap.size w W) => rNum_ok T.neg A c T.mag W (fun z hz => by have := hN.parts.2.2.2.1 z hz; omega) (hN.parts.2.2.1.later hb) hN.parts.1 hN.parts.2.1 lq22)
 have HEV := Lh (show Sh.expr.ev Nd.right T = (((T.text.size == 0)) && ((T.kids.length == 0)) && (numL T.neg T.mag)) by
  rw [ex_at hk (tx := .non) (fm := .row []) rfl lq28 lq28 lq28 lq28]
  show (_ && (if (32 : Int) = 32 then numL T.neg T.mag else noNumB T) && rowB T.kids []) = _
  rw [rowB_nil, if_pos rfl]
  simp [Tx.ev, Bool.and_assoc, Bool.and_comm, Bool.and_left_comm])
 by_cases h0' : T.text.size = 0
 ·have g0 : (T.text.size == 0) = true := by simp [h0']
  have et : T.text.toList.isEmpty = true := by rw [HTE.out, g0]
  by_cases h1' : T.kids.length = 0
  ·have g1 : (T.kids.length == 0) = true := by simp [h1']
   have el : ((T.kids.length : Int) == 0) = true := by rw [h1']; rfl
   cases hc2 : numL T.neg T.mag with
   | true =>
    have G2 := Lh hc2; clear hc2; have HV := Lh (show Sh.expr.ev Nd.right T = true by rw [HEV.out]; simp [g0, g1, G2.out]); exact lv106
   | false =>
    have G2 := Lh hc2; clear hc2; have HV := Lh (show Sh.expr.ev Nd.right T = false by rw [HEV.out]; simp [g0, g1, G2.out]); exact lv106
  ·have g1 : (T.kids.length == 0) = false := by simp [h1']
   have el : ((T.kids.length : Int) == 0) = false := bFo; have HV := Lh (show Sh.expr.ev Nd.right T = false by rw [HEV.out]; simp [g0, g1]); clear h0' h1'; exact lv136
 ·have g0 : (T.text.size == 0) = false := by simp [h0']
  have et : T.text.toList.isEmpty = false := by rw [HTE.out, g0]
  have HV := Lh (show Sh.expr.ev Nd.right T = false by rw [HEV.out]; simp [g0]); clear h0'; exact lv136
theorem rx34 (hk : T.kind = 34) (hD : T.depth ≤ D + 1) (hW : T.weight ≤ 1000000) (hN : NodeAt w T A c K d) :
  Calls Tryz.prog 91 #[ndV T A c K d] w fun e w' => e = .returned (.bool (Sh.expr.ev Nd.right T)) ∧ Below w.heap.size w w' := by
 have _ := hE
 have HBa := Lh (fun W (hb : Below w.heap.size w W) => by
  have := rBare_ok T A c K d W (hN.later hb); unfold ndV at this; rw [hk] at this
  exact this)
 have HIn := Lh (fun (W : World) (_ : Below w.heap.size w W) (cs : Array Value) (t : TypeId) (hc : cs = ((constsL.map fun l => (⟨l.toArray⟩ : ByteArray)).map Value.string).toArray) => rIn_ok (constsL.map fun l => ⟨l.toArray⟩) 3 3 _ T.text _ lq28 (strsAt_new W _ t cs hc) (Nat.le_refl _) lq24)
 have HEV := Lh (show Sh.expr.ev Nd.right T = ((noNumB T) && ((T.kids.length == 0)) && (Lib.containsS (constsL.map fun l => ⟨l.toArray⟩) T.text)) by
  rw [ex_at hk (tx := (.words constsL)) (fm := .row []) rfl lq28 lq28 lq28 lq28]
  show (_ && _ && rowB T.kids []) = _
  rw [rowB_nil, containsS_eq]
  simp [Tx.ev, Bool.and_assoc, Bool.and_comm, Bool.and_left_comm])
 cases hc0 : noNumB T with
 | true =>
  have G0 := Lh hc0; clear hc0
  by_cases h1' : T.kids.length = 0
  ·have g1 : (T.kids.length == 0) = true := by simp [h1']
   have el : ((T.kids.length : Int) == 0) = true := by rw [h1']; rfl
   cases hc2 : Lib.containsS (constsL.map fun l => ⟨l.toArray⟩) T.text with
   | true =>
    have G2 := Lh hc2; clear hc2; have HV := Lh (show Sh.expr.ev Nd.right T = true by rw [HEV.out]; simp [G0.out, g1, G2.out]); exact lv40
   | false =>
    have G2 := Lh hc2; clear hc2; have HV := Lh (show Sh.expr.ev Nd.right T = false by rw [HEV.out]; simp [G0.out, g1, G2.out]); exact lv40
  ·have g1 : (T.kids.length == 0) = false := by simp [h1']
   have el : ((T.kids.length : Int) == 0) = false := bFo; have HV := Lh (show Sh.expr.ev Nd.right T = false by rw [HEV.out]; simp [G0.out, g1]); clear h1'; exact lv108
 | false =>
  exact lv97
theorem rx_other (hD : T.depth ≤ D + 1) (hW : T.weight ≤ 1000000) (hN : NodeAt w T A c K d) (hEV : Sh.expr.ev Nd.right T = false) (z31 : (T.kind == 31) = false) (z32 : (T.kind == 32) = false) (z33 : (T.kind == 33) = false) (z34 : (T.kind == 34) = false) (z35 : (T.kind == 35) = false) (z36 : (T.kind == 36) = false) (z37 : (T.kind == 37) = false) (z38 : (T.kind == 38) = false) (z41 : (T.kind == 41) = false) (z42 : (T.kind == 42) = false) (z43 : (T.kind == 43) = false) (z44 : (T.kind == 44) = false) (z45 : (T.kind == 45) = false) (z46 : (T.kind == 46) = false) (z47 : (T.kind == 47) = false) (z48 : (T.kind == 48) = false) (z49 : (T.kind == 49) = false) (z50 : (T.kind == 50) = false) (z51 : (T.kind == 51) = false) (z53 : (T.kind == 53) = false) (z54 : (T.kind == 54) = false) :
  Calls Tryz.prog 91 #[ndV T A c K d] w fun e w' => e = .returned (.bool (Sh.expr.ev Nd.right T)) ∧ Below w.heap.size w w' := by
 have _ := hE
 have HBa := Lh (fun W (hb : Below w.heap.size w W) => by
  have := rBare_ok T A c K d W (hN.later hb); unfold ndV at this
  exact this)
 have HTE := Lh (text_empty T.text)
 have n32 : (T.kind != 32) = true := by simpa [bne] using z32
 have HEV := Lh hEV
 clear hE hD hW hEV
 cases hc0 : noNumB T with
 | true =>
  have G0 := Lh hc0; clear hc0
  by_cases h1' : T.text.size = 0
  ·have g1 : (T.text.size == 0) = true := by simp [h1']
   have et : T.text.toList.isEmpty = true := by rw [HTE.out, g1]
   exact lv102
  ·have g1 : (T.text.size == 0) = false := by simp [h1']
   have et : T.text.toList.isEmpty = false := by rw [HTE.out, g1]
   exact lv102
 | false =>
  have G0 := Lh hc0; clear hc0; have HV := Lh (show Sh.expr.ev Nd.right T = false by rw [HEV.out]); obtain ⟨hm1, hm2, hrm, hw32, hk1, hk2, ⟨hk64a, hk64b⟩, ⟨ha64a, ha64b⟩, hts, hKs, HK⟩ := hN.hd; obtain ⟨hb1, c0, c1, c2, c3, c4, c5⟩ := bxn w T A c K d; unfold ndV; clear hKs hN; go_enter Tryz.func91, Tryz.ntmps91; go_wp2_with (first | (go_at_call 34; refine (HBa.out _ hb1).mono ?_; rintro e w_1 ⟨he1, hq1⟩; rw [G0.out] at he1; subst he1; have hw1 := hb1.trans (hq1.mono hb1.size); obtain ⟨a1_0, a1_1, a1_2, a1_3, a1_4, a1_5⟩ := cl6 hq1 c0 c1 c2 c3 c4 c5; have hl1 := blt a1_0)); go_ret
  exact ⟨by rw [HV.out]; rfl, hw1⟩
end

section
variable (D : Nat) (hE : RExprOk D) (T : Nd) (A : Option Addr) (c : Nat) (K : Option Addr) (d : Nat) (w : World)
include D hE T A c K d w
theorem rx41 (hk : T.kind = 41) (hD : T.depth ≤ D + 1) (hW : T.weight ≤ 1000000) (hN : NodeAt w T A c K d) :
  Calls Tryz.prog 91 #[ndV T A c K d] w fun e w' => e = .returned (.bool (Sh.expr.ev Nd.right T)) ∧ Below w.heap.size w w' := by
 have HBa := Lh (fun W (hb : Below w.heap.size w W) => by
  have := rBare_ok T A c K d W (hN.later hb); unfold ndV at this; rw [hk] at this
  exact this)
 have HTE := Lh (text_empty T.text)
 have HCo := Lh (fun W (hb : Below w.heap.size w W) => rComp_ok D hE T.kids T.kids.length K d W rfl (hN.parts.2.2.2.2.2.2.2.2.2.later hb) (wKM hD hW) hN.parts.2.2.2.2.1 hN.parts.2.2.2.2.2.1)
 have HEV := Lh (show Sh.expr.ev Nd.right T = ((noNumB T) && ((T.text.size == 0)) && (decide (1 ≤ T.kids.length)) && ((T.kids.take 1).all (Sh.expr.ev Nd.right)) && (compL T.kids)) by
  rw [ex_at hk (tx := .non) (fm := .cmp .expr) rfl lq28 lq28 lq28 lq28]; rw [cmp_eq]
  simp only [Tx.ev, if_neg (show ¬ (41 : Int) = 32 by decide), Bool.and_assoc, Bool.and_comm, Bool.and_left_comm])
 cases hc0 : noNumB T with
 | true =>
  exact lv2
 | false =>
  exact lv97
theorem rx42 (hk : T.kind = 42) (hD : T.depth ≤ D + 1) (hW : T.weight ≤ 1000000) (hN : NodeAt w T A c K d) :
  Calls Tryz.prog 91 #[ndV T A c K d] w fun e w' => e = .returned (.bool (Sh.expr.ev Nd.right T)) ∧ Below w.heap.size w w' := by
 have HBa := Lh (fun W (hb : Below w.heap.size w W) => by
  have := rBare_ok T A c K d W (hN.later hb); unfold ndV at this; rw [hk] at this
  exact this)
 have HTE := Lh (text_empty T.text)
 have HCo := Lh (fun W (hb : Below w.heap.size w W) => rComp_ok D hE T.kids T.kids.length K d W rfl (hN.parts.2.2.2.2.2.2.2.2.2.later hb) (wKM hD hW) hN.parts.2.2.2.2.1 hN.parts.2.2.2.2.2.1)
 have HEV := Lh (show Sh.expr.ev Nd.right T = ((noNumB T) && ((T.text.size == 0)) && (decide (1 ≤ T.kids.length)) && ((T.kids.take 1).all (Sh.expr.ev Nd.right)) && (compL T.kids)) by
  rw [ex_at hk (tx := .non) (fm := .cmp .expr) rfl lq28 lq28 lq28 lq28]; rw [cmp_eq]
  simp only [Tx.ev, if_neg (show ¬ (42 : Int) = 32 by decide), Bool.and_assoc, Bool.and_comm, Bool.and_left_comm])
 cases hc0 : noNumB T with
 | true =>
  exact lv2
 | false =>
  exact lv97
theorem rx43 (hk : T.kind = 43) (hD : T.depth ≤ D + 1) (hW : T.weight ≤ 1000000) (hN : NodeAt w T A c K d) :
  Calls Tryz.prog 91 #[ndV T A c K d] w fun e w' => e = .returned (.bool (Sh.expr.ev Nd.right T)) ∧ Below w.heap.size w w' := by
 have HBa := Lh (fun W (hb : Below w.heap.size w W) => by
  have := rBare_ok T A c K d W (hN.later hb); unfold ndV at this; rw [hk] at this
  exact this)
 have HTE := Lh (text_empty T.text)
 have HCo := Lh (fun W (hb : Below w.heap.size w W) => rComp_ok D hE T.kids T.kids.length K d W rfl (hN.parts.2.2.2.2.2.2.2.2.2.later hb) (wKM hD hW) hN.parts.2.2.2.2.1 hN.parts.2.2.2.2.2.1)
 have HEV := Lh (show Sh.expr.ev Nd.right T = ((noNumB T) && ((T.text.size == 0)) && (decide (1 ≤ T.kids.length)) && ((T.kids.take 1).all ((Sh.of 39).ev Nd.right)) && (compL T.kids)) by
  rw [ex_at hk (tx := .non) (fm := .cmp (.of 39)) rfl lq28 lq28 lq28 lq28]; rw [cmp_eq]
  simp only [Tx.ev, if_neg (show ¬ (43 : Int) = 32 by decide), Bool.and_assoc, Bool.and_comm, Bool.and_left_comm])
 cases hc0 : noNumB T with
 | true =>
  have G0 := Lh hc0; clear hc0
  by_cases h1' : T.text.size = 0
  ·have g1 : (T.text.size == 0) = true := by simp [h1']
   have et : T.text.toList.isEmpty = true := by rw [HTE.out, g1]
   by_cases h2' : 1 ≤ T.kids.length
   ·have g2 : decide (1 ≤ T.kids.length) = true := by simp [h2']
    have el : decide ((0 : Int) < (T.kids.length : Int)) = true := dTo; have el' : decide (0 < T.kids.length) = true := dTo; obtain ⟨t0, ht0⟩ : ∃ t0, T.kids[0]? = some t0 := ⟨_, gEo⟩; have htk : T.kids.take 1 = [t0] := take_one ht0; have hds := wKM hD hW t0 (mog ht0); obtain ⟨b, off, A0, c0', K0, d0', hKe, hC0, hN0⟩ := hN.kid ht0; rw [Nat.zero_mul, Nat.add_zero] at hC0; subst hKe; have i0 : (0 : Int) < (T.kids.length : Int) := by omega
    have i1 : 0 < T.kids.length := by omega
    have HX := Lh (fun W (hb : Below w.heap.size w W) => by
     have := rPair_ok D hE t0 A0 c0' K0 d0' W lq29 hds.2 (hN0.later hb); unfold ndV at this; rw [show (Sh.of 39).ev Nd.right t0 = (T.kids.take 1).all ((Sh.of 39).ev Nd.right) by simp [htk]] at this
     exact this)
    clear hds hN0 htk ht0
    cases hc3 : (T.kids.take 1).all ((Sh.of 39).ev Nd.right) with
    | true =>
     have G3 := Lh hc3; clear hc3
     cases hc4 : compL T.kids with
     | true =>
      have G4 := Lh hc4; clear hc4; have HV := Lh (show Sh.expr.ev Nd.right T = true by rw [HEV.out]; simp [G0.out, g1, g2, G3.out, G4.out]); exact lv36
     | false =>
      have G4 := Lh hc4; clear hc4; have HV := Lh (show Sh.expr.ev Nd.right T = false by rw [HEV.out]; simp [G0.out, g1, g2, G3.out, G4.out]); exact lv36
    | false =>
     have G3 := Lh hc3; clear hc3; have HV := Lh (show Sh.expr.ev Nd.right T = false by rw [HEV.out]; simp [G0.out, g1, g2, G3.out]); clear h1' h2'; obtain ⟨hm1, hm2, hrm, hw32, hk1, hk2, ⟨hk64a, hk64b⟩, ⟨ha64a, ha64b⟩, hts, hKs, HK⟩ := hN.hd; have hcc := bxn w T A c (some ⟨b, off, none⟩) d; rw [hk] at hcc; obtain ⟨hb1, c0, c1, c2, c3, c4, c5⟩ := hcc; obtain ⟨n0, n1, n2, n3, n4, n5⟩ := hC0.later hb1; unfold ndV; rw [hk]; clear hk; clear hKs hN; go_enter Tryz.func91, Tryz.ntmps91
     go_wp2_with (first | (go_at_call 34; refine (HBa.out _ hb1).mono ?_; rintro e w_1 ⟨he1, hq1⟩; rw [G0.out] at he1; subst he1; have hw1 := hb1.trans (hq1.mono hb1.size); obtain ⟨a1_0, a1_1, a1_2, a1_3, a1_4, a1_5⟩ := cl6 hq1 c0 c1 c2 c3 c4 c5; have hl1 := blt a1_0; obtain ⟨k10, k11, k12, k13, k14, k15⟩ := cl6 hq1 n0 n1 n2 n3 n4 n5; have hm1' := blt k10) | (go_at_call 154; refine (HX.out _ hw1).mono ?_; rintro e w_2 ⟨he2, hq2⟩; rw [G3.out] at he2; subst he2; have hw2 := hw1.trans (hq2.mono hw1.size); obtain ⟨a2_0, a2_1, a2_2, a2_3, a2_4, a2_5⟩ := cl6 hq2 a1_0 a1_1 a1_2 a1_3 a1_4 a1_5; have hl2 := blt a2_0; obtain ⟨k20, k21, k22, k23, k24, k25⟩ := cl6 hq2 k10 k11 k12 k13 k14 k15; have hm2' := blt k20))
     go_ret; exact ⟨by rw [HV.out]; rfl, hw2⟩
   ·exact lv77
  ·exact lv91
 | false =>
  exact lv97
theorem rx38 (hk : T.kind = 38) (hD : T.depth ≤ D + 1) (hW : T.weight ≤ 1000000) (hN : NodeAt w T A c K d) :
  Calls Tryz.prog 91 #[ndV T A c K d] w fun e w' => e = .returned (.bool (Sh.expr.ev Nd.right T)) ∧ Below w.heap.size w w' := by
 have HBa := Lh (fun W (hb : Below w.heap.size w W) => by
  have := rBare_ok T A c K d W (hN.later hb); unfold ndV at this; rw [hk] at this
  exact this)
 have HTE := Lh (text_empty T.text)
 have HPa := Lh (fun (t : Nd) A' c' K' d' (W : World) (h1 : t.depth ≤ D) h2 (hn : NodeAt W t A' c' K' d') => rPair_ok D hE t A' c' K' d' W lq29 h2 hn)
 have HSp := Lh (fun (t : Nd) A' c' K' d' (W : World) (h1 : t.depth ≤ D) h2 (hn : NodeAt W t A' c' K' d') => rSpread_ok D hE t A' c' K' d' W lq29 h2 hn)
 have HWi := Lh (wKM hD hW)
 have HEV := Lh (show Sh.expr.ev Nd.right T = (((noNumB T) && (T.text.size == 0)) && T.kids.all ((Sh.or2 (.of 39) (.of 40)).ev Nd.right)) by
  rw [ex_at hk (tx := .non) (fm := .some 0 (.or2 (.of 39) (.of 40))) rfl lq28 lq28 lq28 lq28]; simp only [Tx.ev, Fm.ev, if_neg (show ¬ (38 : Int) = 32 by decide), Nat.zero_le, decide_true, Bool.true_and]
  rw [Bool.and_comm (noNumB T)])
 cases hc0 : noNumB T with
 | true =>
  have G0 := Lh hc0; clear hc0
  by_cases h1' : T.text.size = 0
  ·have g1 : (T.text.size == 0) = true := by simp [h1']
   have et : T.text.toList.isEmpty = true := by rw [HTE.out, g1]
   have HV1 := Lh (show ((noNumB T) && (T.text.size == 0)) = true by simp [G0.out, g1]); clear h1'; obtain ⟨hm1, hm2, hrm, hw32, hk1, hk2, ⟨hk64a, hk64b⟩, ⟨ha64a, ha64b⟩, hts, hKs, HK⟩ := hN.hd; have hcc := bxn w T A c K d; rw [hk] at hcc; obtain ⟨hb1, c0, c1, c2, c3, c4, c5⟩ := hcc; unfold ndV; rw [hk]; clear hk; clear hKs hN; go_enter Tryz.func91, Tryz.ntmps91
   go_wp2_with (first | (go_at_call 34; refine (HBa.out _ hb1).mono ?_; rintro e w_1 ⟨he1, hq1⟩; rw [G0.out] at he1; subst he1; have hw1 := hb1.trans (hq1.mono hb1.size); obtain ⟨a1_0, a1_1, a1_2, a1_3, a1_4, a1_5⟩ := cl6 hq1 c0 c1 c2 c3 c4 c5; have hl1 := blt a1_0)); have HW0 := Lh hw1; go_wp2_with fail
   go_loopw [4] (fun iv wr => ∃ k : Nat, iv = .int .i64 k ∧ k ≤ T.kids.length ∧ Hid ((T.kids.take k).all ((Sh.or2 (.of 39) (.of 40)).ev Nd.right) = true) ∧ Below w_1.heap.size w_1 wr) (fun iv _ => T.kids.length - (intOf iv).toNat)
   case atStart => exact ⟨0, rfl, Nat.zero_le _, Lh rfl, Below.refl _ _⟩
   case round =>
    obtain ⟨k, rfl, hk, hR, hbr⟩ := hrel; have hbw := HW0.out.trans (hbr.mono HW0.out.size); have d5 := cLt hbr a1_5; have hlw := blt d5
    by_cases hkl : k < T.kids.length
    ·have o1 : decide ((k : Int) < (T.kids.length : Int)) = true := dTo; have o2 : decide (k < T.kids.length) = true := dTr hkl; obtain ⟨t, ht⟩ : ∃ t, T.kids[k]? = some t := ⟨_, List.getElem?_eq_getElem hkl⟩; obtain ⟨b, off, A', c', K', d', hKe, hC, hNt⟩ := HK.out k t ht; subst hKe; obtain ⟨n0, n1, n2, n3, n4, n5⟩ := hC.later hbw; have hbn := blt n0; obtain ⟨hd1, hw1⟩ := HWi.out t (mog ht); have hI := HPa.out t A' c' K' d' wr hd1 hw1 (hNt.later hbw); unfold ndV at hI; have HI := Lh hI; have hJ := fun W (hb : Below wr.heap.size wr W) => HSp.out t A' c' K' d' W hd1 hw1 ((hNt.later hbw).later hb)
     unfold ndV at hJ; have HJ := Lh hJ; have HAT := Lh (all_take (p := (Sh.or2 (.of 39) (.of 40)).ev Nd.right) ht); have HAL := Lh (fun h => all_le (l := T.kids) (p := (Sh.or2 (.of 39) (.of 40)).ev Nd.right) (k := k + 1) h); have HO := Lh (show (Sh.or2 (.of 39) (.of 40)).ev Nd.right t = ((Sh.of 39).ev Nd.right t || (Sh.of 40).ev Nd.right t) from rfl); clear hI hJ hC hNt ht hd1 hw1
     cases hp : (Sh.of 39).ev Nd.right t with
     | true =>
      rw [hp] at HI; have HZ := Lh (show (T.kids.take (k + 1)).all ((Sh.or2 (.of 39) (.of 40)).ev Nd.right) = true by rw [HAT.out, hR.out, HO.out, hp]; rfl); clear hp; go_wp2_with (go_at_call 154; refine HI.out.mono ?_; rintro e w3 ⟨rfl, hb3⟩); exact lv180
     | false =>
      rw [hp] at HI; have HO2 := Lh (show (Sh.or2 (.of 39) (.of 40)).ev Nd.right t = (Sh.of 40).ev Nd.right t by rw [HO.out, hp]; rfl); clear hp
      cases hp : (Sh.of 40).ev Nd.right t with
      | true =>
       rw [hp] at HJ; have HZ := Lh (show (T.kids.take (k + 1)).all ((Sh.or2 (.of 39) (.of 40)).ev Nd.right) = true by rw [HAT.out, hR.out, HO2.out, hp]; rfl); clear hp; go_wp2_with (first | (go_at_call 154; refine HI.out.mono ?_; rintro e w3 ⟨rfl, hb3⟩; obtain ⟨p0, p1, p2, p3, p4, p5⟩ := cl6 hb3 n0 n1 n2 n3 n4 n5; have x5 := cLt hb3 d5; have hlx := blt x5; have hbn3 := blt p0) | (go_at_call 155; refine (HJ.out _ hb3).mono ?_; rintro e w4 ⟨rfl, hb4⟩))
       go_roundw
       case rel => exact ⟨k + 1, by go_num, by omega, HZ, hbr.trans ((hb3.trans (hb4.mono hb3.size)).mono hbr.size)⟩
       case measure => simp [intOf]; omega
      | false =>
       rw [hp] at HJ; have HZ := Lh (show T.kids.all ((Sh.or2 (.of 39) (.of 40)).ev Nd.right) = false from HAL.out (by rw [HAT.out, HO2.out, hp, Bool.and_false])); clear hp; go_wp2_with (first | (go_at_call 154; refine HI.out.mono ?_; rintro e w3 ⟨rfl, hb3⟩; obtain ⟨p0, p1, p2, p3, p4, p5⟩ := cl6 hb3 n0 n1 n2 n3 n4 n5; have x5 := cLt hb3 d5; have hlx := blt x5; have hbn3 := blt p0) | (go_at_call 155; refine (HJ.out _ hb3).mono ?_; rintro e w4 ⟨rfl, hb4⟩)); go_ret; exact ⟨by rw [HEV.out, HV1.out, HZ.out]; rfl, hbw.trans ((hb3.trans (hb4.mono hb3.size)).mono hbw.size)⟩
    ·exact lv147
  ·exact lv91
 | false =>
  exact lv97
end

theorem rExpr_step (D : Nat) (hE : RExprOk D) : RExprOk (D + 1) := by
 intro T A c K d w hD hW hN
 by_cases h31 : T.kind = 31
 ·exact rx31 D hE T A c K d w h31 hD hW hN
 by_cases h32 : T.kind = 32
 ·exact rx32 D hE T A c K d w h32 hD hW hN
 by_cases h33 : T.kind = 33
 ·exact rx33 D hE T A c K d w h33 hD hW hN
 by_cases h34 : T.kind = 34
 ·exact rx34 D hE T A c K d w h34 hD hW hN
 by_cases h35 : T.kind = 35
 ·exact rx35 D hE T A c K d w h35 hD hW hN
 by_cases h36 : T.kind = 36
 ·exact rx36 D hE T A c K d w h36 hD hW hN
 by_cases h37 : T.kind = 37
 ·exact rx37 D hE T A c K d w h37 hD hW hN
 by_cases h38 : T.kind = 38
 ·exact rx38 D hE T A c K d w h38 hD hW hN
 by_cases h41 : T.kind = 41
 ·exact rx41 D hE T A c K d w h41 hD hW hN
 by_cases h42 : T.kind = 42
 ·exact rx42 D hE T A c K d w h42 hD hW hN
 by_cases h43 : T.kind = 43
 ·exact rx43 D hE T A c K d w h43 hD hW hN
 by_cases h44 : T.kind = 44
 ·exact rx44 D hE T A c K d w h44 hD hW hN
 by_cases h45 : T.kind = 45
 ·exact rx45 D hE T A c K d w h45 hD hW hN
 by_cases h46 : T.kind = 46
 ·exact rx46 D hE T A c K d w h46 hD hW hN
 by_cases h47 : T.kind = 47
 ·exact rx47 D hE T A c K d w h47 hD hW hN
 by_cases h48 : T.kind = 48
 ·exact rx48 D hE T A c K d w h48 hD hW hN
 by_cases h49 : T.kind = 49
 ·exact rx49 D hE T A c K d w h49 hD hW hN
 by_cases h50 : T.kind = 50
 ·exact rx50 D hE T A c K d w h50 hD hW hN
 by_cases h51 : T.kind = 51
 ·exact rx51 D hE T A c K d w h51 hD hW hN
 by_cases h53 : T.kind = 53
 ·exact rx53 D hE T A c K d w h53 hD hW hN
 by_cases h54 : T.kind = 54
 ·exact rx54 D hE T A c K d w h54 hD hW hN
 refine rx_other D hE T A c K d w hD hW hN ?_ (beq_eq_false_iff_ne.2 h31) (beq_eq_false_iff_ne.2 h32) (beq_eq_false_iff_ne.2 h33) (beq_eq_false_iff_ne.2 h34) (beq_eq_false_iff_ne.2 h35) (beq_eq_false_iff_ne.2 h36) (beq_eq_false_iff_ne.2 h37) (beq_eq_false_iff_ne.2 h38) (beq_eq_false_iff_ne.2 h41) (beq_eq_false_iff_ne.2 h42) (beq_eq_false_iff_ne.2 h43) (beq_eq_false_iff_ne.2 h44) (beq_eq_false_iff_ne.2 h45) (beq_eq_false_iff_ne.2 h46) (beq_eq_false_iff_ne.2 h47) (beq_eq_false_iff_ne.2 h48) (beq_eq_false_iff_ne.2 h49) (beq_eq_false_iff_ne.2 h50) (beq_eq_false_iff_ne.2 h51) (beq_eq_false_iff_ne.2 h53) (beq_eq_false_iff_ne.2 h54)
 by_cases h39 : T.kind = 39
 ·simp [Sh.ev, h39]
 by_cases h40 : T.kind = 40
 ·simp [Sh.ev, h40]
 by_cases h52 : T.kind = 52
 ·simp [Sh.ev, h52]
 by_cases hlo : 31 ≤ T.kind
 ·have hn : formOf T.kind = none := by
   unfold formOf; rw [Option.map_eq_none_iff, List.find?_eq_none]; simp only [forms, List.forall_mem_cons, List.not_mem_nil, false_implies, implies_true, and_true, beq_iff_eq]
   omega
  simp [Sh.ev, right_eq, hn]
 ·simp [Sh.ev, hlo]
theorem rExpr_ok : ∀ D, RExprOk D := by
 intro D
 induction D with
 | zero => intro T A c K d W hD; rw [T.depth_eq] at hD; omega
 | succ D ih => exact rExpr_step D ih
end
end Go.Proofs.YtjefhdlncikhmaaGreatDoor
