/- Joined by a program: Q7d, Q7e, Q7. -/
import Derived.Test.YtjefhdlncikhmaaGreatDoorPT26
namespace Go.Proofs.YtjefhdlncikhmaaGreatDoor
set_option linter.unusedVariables false
set_option linter.unusedSimpArgs false
set_option maxRecDepth 1000000
set_option maxHeartbeats 16000000
section
open Go.RowKit
open List (length_append length_cons length_nil length_singleton)
section
variable (D : Nat) (hS : RStmtOk D) (T : Nd) (A : Option Addr) (c : Nat) (K : Option Addr) (d : Nat) (w : World)
include D hS T A c K d w
theorem rs17 (hk : T.kind = 17) (hD : T.depth ≤ D + 1) (hW : T.weight ≤ 1000000) (hN : NodeAt w T A c K d) :
  Calls Tryz.prog 49 #[ndV T A c K d] w fun e w' => e = .returned (.bool (Sh.stmt.ev Nd.right T)) ∧ Below w.heap.size w w' := by
 have HBa := Lh (fun W (hb : Below w.heap.size w W) => by
  have := rBare_ok T A c K d W (hN.later hb); unfold ndV at this; rw [hk] at this
  exact this)
 have HTE := Lh (text_empty T.text)
 have HEV0 := Lh (show Sh.stmt.ev Nd.right T = ((T.text.size == 0) && noNumB T && rowB T.kids [Sh.ev Nd.right .targets, Sh.ev Nd.right .expr, Sh.ev Nd.right .block]) by
  rw [st_at hk (tx := .non) (fm := .row [.targets, .expr, .block]) rfl lq28 lq28 lq28]
  rfl)
 cases hc1 : noNumB T with
 | true =>
  have G1 := Lh hc1; clear hc1
  by_cases h2' : T.text.size = 0
  ·have g2 : (T.text.size == 0) = true := by simp [h2']
   have et : T.text.toList.isEmpty = true := by rw [HTE.out, g2]
   by_cases h3' : T.kids.length = 3
   ·have g3 : (T.kids.length == 3) = true := by simp [h3']
    have el : ((T.kids.length : Int) == 3) = true := by rw [h3']; rfl
    have elb : ((T.kids.length : Int) != 3) = false := by rw [h3']; rfl
    obtain ⟨t0, t1, t2, hks⟩ := kids_3 (l := T.kids) lq29; have hg0 : T.kids[0]? = some t0 := by rw [hks]; rfl
    obtain ⟨b, off, A0, c0, K0, d0, hKe0, hC0, hN0⟩ := hN.kid hg0; have hd0 := wKM hD hW t0 (mog hg0); have hg1 : T.kids[1]? = some t1 := by rw [hks]; rfl
    obtain ⟨b1, off1, A1, c1, K1, d1, hKe1, hC1, hN1⟩ := hN.kid hg1; have hd1 := wKM hD hW t1 (mog hg1); have hg2 : T.kids[2]? = some t2 := by rw [hks]; rfl
    obtain ⟨b2, off2, A2, c2, K2, d2, hKe2, hC2, hN2⟩ := hN.kid hg2; have hd2 := wKM hD hW t2 (mog hg2); rw [Nat.zero_mul, Nat.add_zero] at hC0; subst hKe0; injection hKe1 with e1
    injection e1 with e1 e2
    subst e1 e2; rw [show 1 * 6 = 6 from rfl] at hC1; injection hKe2 with e1
    injection e1 with e1 e2
    subst e1 e2; rw [show 2 * 6 = 12 from rfl] at hC2
    have HK0x := Lh (fun W (hb : Below w.heap.size w W) => by
     have := rTargets_ok D (rExpr_ok D) t0 A0 c0 K0 d0 W hd0.1 hd0.2 (hN0.later hb); unfold ndV at this
     exact this)
    have HK1x := Lh (fun W (hb : Below w.heap.size w W) => by
     have := rExpr_ok D t1 A1 c1 K1 d1 W hd1.1 hd1.2 (hN1.later hb); unfold ndV at this
     exact this)
    have HK2x := Lh (fun W (hb : Below w.heap.size w W) => by
     have := rBlock_ok D hS t2 A2 c2 K2 d2 W lq29 hd2.2 (hN2.later hb); unfold ndV at this
     exact this)
    have j0a : (0 : Int) < (T.kids.length : Int) := by omega
    have j0b : 0 < T.kids.length := by omega
    have j1a : (1 : Int) < (T.kids.length : Int) := by omega
    have j1b : 1 < T.kids.length := by omega
    have j2a : (2 : Int) < (T.kids.length : Int) := by omega
    have j2b : 2 < T.kids.length := by omega
    have HEVk := Lh (show Sh.stmt.ev Nd.right T = ((T.text.size == 0) && noNumB T && ((Sh.targets.ev Nd.right t0) && (Sh.expr.ev Nd.right t1) && (Sh.block.ev Nd.right t2))) by rw [HEV0.out, hks]; simp [rowB, Sh.ev, Bool.and_assoc]); clear hks hg0 hg1 hg2 hN0 hN1 hN2 hd0 hd1 hd2
    cases hc4 : Sh.targets.ev Nd.right t0 with
    | true =>
     have G4 := Lh hc4; clear hc4
     cases hc5 : Sh.expr.ev Nd.right t1 with
     | true =>
      have G5 := Lh hc5; clear hc5
      cases hc6 : Sh.block.ev Nd.right t2 with
      | true =>
       have G6 := Lh hc6; clear hc6; have HV := Lh (show Sh.stmt.ev Nd.right T = true by rw [HEVk.out]; simp [G1.out, g2, g3, G4.out, G5.out, G6.out]); exact lv15
      | false =>
       have G6 := Lh hc6; clear hc6; have HV := Lh (show Sh.stmt.ev Nd.right T = false by rw [HEVk.out]; simp [G1.out, g2, g3, G4.out, G5.out, G6.out]); exact lv15
     | false =>
      have G5 := Lh hc5; clear hc5; have HV := Lh (show Sh.stmt.ev Nd.right T = false by rw [HEVk.out]; simp [G1.out, g2, g3, G4.out, G5.out]); clear h2' h3'; obtain ⟨hm1, hm2, hrm, hw32, hk1, hk2, ⟨hk64a, hk64b⟩, ⟨ha64a, ha64b⟩, hts, hKs, HK⟩ := hN.hd; have hcc := bxn w T A c (some ⟨b, off, none⟩) d; rw [hk] at hcc; obtain ⟨hb1, c0, c1, c2, c3, c4, c5⟩ := hcc; obtain ⟨n00, n01, n02, n03, n04, n05⟩ := hC0.later hb1; obtain ⟨n10, n11, n12, n13, n14, n15⟩ := hC1.later hb1; obtain ⟨n20, n21, n22, n23, n24, n25⟩ := hC2.later hb1; unfold ndV; rw [hk]; clear hk; clear hKs hN
      go_enter Tryz.func49, Tryz.ntmps49
      go_wp2_with (first | (go_at_call 34; refine (HBa.out _ hb1).mono ?_; rintro e w_1 ⟨he1, hq1⟩; rw [G1.out] at he1; subst he1; have hw1 := hb1.trans (hq1.mono hb1.size); obtain ⟨a100, a101, a102, a103, a104, a105⟩ := cl6 hq1 c0 c1 c2 c3 c4 c5; have hl1g0 := blt a100; obtain ⟨a110, a111, a112, a113, a114, a115⟩ := cl6 hq1 n00 n01 n02 n03 n04 n05; have hl1g1 := blt a110; obtain ⟨a120, a121, a122, a123, a124, a125⟩ := cl6 hq1 n10 n11 n12 n13 n14 n15; have hl1g2 := blt a120; obtain ⟨a130, a131, a132, a133, a134, a135⟩ := cl6 hq1 n20 n21 n22 n23 n24 n25; have hl1g3 := blt a130) | (go_at_call 97; refine (HK0x.out _ hw1).mono ?_; rintro e w_2 ⟨he2, hq2⟩; rw [G4.out] at he2; subst he2; have hw2 := hw1.trans (hq2.mono hw1.size); obtain ⟨a200, a201, a202, a203, a204, a205⟩ := cl6 hq2 a100 a101 a102 a103 a104 a105; have hl2g0 := blt a200; obtain ⟨a210, a211, a212, a213, a214, a215⟩ := cl6 hq2 a110 a111 a112 a113 a114 a115; have hl2g1 := blt a210; obtain ⟨a220, a221, a222, a223, a224, a225⟩ := cl6 hq2 a120 a121 a122 a123 a124 a125; have hl2g2 := blt a220; obtain ⟨a230, a231, a232, a233, a234, a235⟩ := cl6 hq2 a130 a131 a132 a133 a134 a135; have hl2g3 := blt a230) | (go_at_call 91; refine (HK1x.out _ hw2).mono ?_; rintro e w_3 ⟨he3, hq3⟩; rw [G5.out] at he3; subst he3; have hw3 := hw2.trans (hq3.mono hw2.size); obtain ⟨a300, a301, a302, a303, a304, a305⟩ := cl6 hq3 a200 a201 a202 a203 a204 a205; have hl3g0 := blt a300; obtain ⟨a310, a311, a312, a313, a314, a315⟩ := cl6 hq3 a210 a211 a212 a213 a214 a215; have hl3g1 := blt a310; obtain ⟨a320, a321, a322, a323, a324, a325⟩ := cl6 hq3 a220 a221 a222 a223 a224 a225; have hl3g2 := blt a320; obtain ⟨a330, a331, a332, a333, a334, a335⟩ := cl6 hq3 a230 a231 a232 a233 a234 a235; have hl3g3 := blt a330))
      go_ret; exact ⟨by rw [HV.out]; rfl, hw3⟩
    | false =>
     have G4 := Lh hc4; clear hc4; have HV := Lh (show Sh.stmt.ev Nd.right T = false by rw [HEVk.out]; simp [G1.out, g2, g3, G4.out]); clear h2' h3'; obtain ⟨hm1, hm2, hrm, hw32, hk1, hk2, ⟨hk64a, hk64b⟩, ⟨ha64a, ha64b⟩, hts, hKs, HK⟩ := hN.hd; have hcc := bxn w T A c (some ⟨b, off, none⟩) d; rw [hk] at hcc; obtain ⟨hb1, c0, c1, c2, c3, c4, c5⟩ := hcc; obtain ⟨n00, n01, n02, n03, n04, n05⟩ := hC0.later hb1; obtain ⟨n10, n11, n12, n13, n14, n15⟩ := hC1.later hb1; obtain ⟨n20, n21, n22, n23, n24, n25⟩ := hC2.later hb1; unfold ndV; rw [hk]; clear hk; clear hKs hN
     go_enter Tryz.func49, Tryz.ntmps49
     go_wp2_with (first | (go_at_call 34; refine (HBa.out _ hb1).mono ?_; rintro e w_1 ⟨he1, hq1⟩; rw [G1.out] at he1; subst he1; have hw1 := hb1.trans (hq1.mono hb1.size); obtain ⟨a100, a101, a102, a103, a104, a105⟩ := cl6 hq1 c0 c1 c2 c3 c4 c5; have hl1g0 := blt a100; obtain ⟨a110, a111, a112, a113, a114, a115⟩ := cl6 hq1 n00 n01 n02 n03 n04 n05; have hl1g1 := blt a110; obtain ⟨a120, a121, a122, a123, a124, a125⟩ := cl6 hq1 n10 n11 n12 n13 n14 n15; have hl1g2 := blt a120; obtain ⟨a130, a131, a132, a133, a134, a135⟩ := cl6 hq1 n20 n21 n22 n23 n24 n25; have hl1g3 := blt a130) | (go_at_call 97; refine (HK0x.out _ hw1).mono ?_; rintro e w_2 ⟨he2, hq2⟩; rw [G4.out] at he2; subst he2; have hw2 := hw1.trans (hq2.mono hw1.size); obtain ⟨a200, a201, a202, a203, a204, a205⟩ := cl6 hq2 a100 a101 a102 a103 a104 a105; have hl2g0 := blt a200; obtain ⟨a210, a211, a212, a213, a214, a215⟩ := cl6 hq2 a110 a111 a112 a113 a114 a115; have hl2g1 := blt a210; obtain ⟨a220, a221, a222, a223, a224, a225⟩ := cl6 hq2 a120 a121 a122 a123 a124 a125; have hl2g2 := blt a220; obtain ⟨a230, a231, a232, a233, a234, a235⟩ := cl6 hq2 a130 a131 a132 a133 a134 a135; have hl2g3 := blt a230))
     go_ret; exact ⟨by rw [HV.out]; rfl, hw2⟩
   ·have g3 : (T.kids.length == 3) = false := by simp [h3']
    have el : ((T.kids.length : Int) == 3) = false := bFo; have elb : ((T.kids.length : Int) != 3) = true := bne_iff_ne.2 lq29; have HV := Lh (show Sh.stmt.ev Nd.right T = false by rw [HEV0.out, rowB_len (by simpa using h3')]; simp); clear h2' h3'; obtain ⟨hm1, hm2, hrm, hw32, hk1, hk2, ⟨hk64a, hk64b⟩, ⟨ha64a, ha64b⟩, hts, hKs, HK⟩ := hN.hd; have hcc := bxn w T A c K d; rw [hk] at hcc; obtain ⟨hb1, c0, c1, c2, c3, c4, c5⟩ := hcc; unfold ndV; rw [hk]; clear hk; exact lv132
  ·exact lv89
 | false =>
  exact lv96
theorem rs20 (hk : T.kind = 20) (hD : T.depth ≤ D + 1) (hW : T.weight ≤ 1000000) (hN : NodeAt w T A c K d) :
  Calls Tryz.prog 49 #[ndV T A c K d] w fun e w' => e = .returned (.bool (Sh.stmt.ev Nd.right T)) ∧ Below w.heap.size w w' := by
 have HBa := Lh (fun W (hb : Below w.heap.size w W) => by
  have := rBare_ok T A c K d W (hN.later hb); unfold ndV at this; rw [hk] at this
  exact this)
 have HNm := Lh (fun W (_ : Below w.heap.size w W) => rName_ok T.text W lq22)
 have HEV0 := Lh (show Sh.stmt.ev Nd.right T = (nameB T.text.data.toList && noNumB T && rowB T.kids [Sh.ev Nd.right (.or2 .none .expr), Sh.ev Nd.right .block]) by
  rw [st_at hk (tx := .name) (fm := .row [(.or2 .none .expr), .block]) rfl lq28 lq28 lq28]
  rfl)
 cases hc1 : noNumB T with
 | true =>
  have G1 := Lh hc1; clear hc1
  cases hc2 : nameB T.text.data.toList with
  | true =>
   have G2 := Lh hc2; clear hc2
   by_cases h3' : T.kids.length = 2
   ·have g3 : (T.kids.length == 2) = true := by simp [h3']
    have el : ((T.kids.length : Int) == 2) = true := by rw [h3']; rfl
    have elb : ((T.kids.length : Int) != 2) = false := by rw [h3']; rfl
    obtain ⟨t0, t1, hks⟩ := kids_2 (l := T.kids) lq29; have hg0 : T.kids[0]? = some t0 := by rw [hks]; rfl
    obtain ⟨b, off, A0, c0, K0, d0, hKe0, hC0, hN0⟩ := hN.kid hg0; have hd0 := wKM hD hW t0 (mog hg0); have hg1 : T.kids[1]? = some t1 := by rw [hks]; rfl
    obtain ⟨b1, off1, A1, c1, K1, d1, hKe1, hC1, hN1⟩ := hN.kid hg1; have hd1 := wKM hD hW t1 (mog hg1); rw [Nat.zero_mul, Nat.add_zero] at hC0; subst hKe0; injection hKe1 with e1
    injection e1 with e1 e2
    subst e1 e2; rw [show 1 * 6 = 6 from rfl] at hC1
    have HK0x := Lh (fun W (hb : Below w.heap.size w W) => by
     have := rNone_ok t0 A0 c0 K0 d0 W (hN0.later hb); unfold ndV at this
     exact this)
    have HK0y := Lh (fun W (hb : Below w.heap.size w W) => by
     have := rExpr_ok D t0 A0 c0 K0 d0 W hd0.1 hd0.2 (hN0.later hb); unfold ndV at this
     exact this)
    have HK1x := Lh (fun W (hb : Below w.heap.size w W) => by
     have := rBlock_ok D hS t1 A1 c1 K1 d1 W lq29 hd1.2 (hN1.later hb); unfold ndV at this
     exact this)
    have j0a : (0 : Int) < (T.kids.length : Int) := by omega
    have j0b : 0 < T.kids.length := by omega
    have j1a : (1 : Int) < (T.kids.length : Int) := by omega
    have j1b : 1 < T.kids.length := by omega
    have HEVk := Lh (show Sh.stmt.ev Nd.right T = (nameB T.text.data.toList && noNumB T && ((Sh.none.ev Nd.right t0 || Sh.expr.ev Nd.right t0) && (Sh.block.ev Nd.right t1))) by rw [HEV0.out, hks]; simp [rowB, Sh.ev, Bool.and_assoc]); clear hks hg0 hg1 hN0 hN1 hd0 hd1
    cases hc4 : Sh.none.ev Nd.right t0 with
    | true =>
     have G4 := Lh hc4; clear hc4
     cases hc5 : Sh.block.ev Nd.right t1 with
     | true =>
      have G5 := Lh hc5; clear hc5; have HV := Lh (show Sh.stmt.ev Nd.right T = true by rw [HEVk.out]; simp [G1.out, G2.out, g3, G4.out, G5.out]); exact lv20
     | false =>
      have G5 := Lh hc5; clear hc5; have HV := Lh (show Sh.stmt.ev Nd.right T = false by rw [HEVk.out]; simp [G1.out, G2.out, g3, G4.out, G5.out]); exact lv20
    | false =>
     have G4 := Lh hc4; clear hc4
     cases hc6 : Sh.expr.ev Nd.right t0 with
     | true =>
      have G6 := Lh hc6; clear hc6
      cases hc7 : Sh.block.ev Nd.right t1 with
      | true =>
       have G7 := Lh hc7; clear hc7; have HV := Lh (show Sh.stmt.ev Nd.right T = true by rw [HEVk.out]; simp [G1.out, G2.out, g3, G4.out, G6.out, G7.out]); exact lv16
      | false =>
       have G7 := Lh hc7; clear hc7; have HV := Lh (show Sh.stmt.ev Nd.right T = false by rw [HEVk.out]; simp [G1.out, G2.out, g3, G4.out, G6.out, G7.out]); exact lv16
     | false =>
      have G6 := Lh hc6; clear hc6; have HV := Lh (show Sh.stmt.ev Nd.right T = false by rw [HEVk.out]; simp [G1.out, G2.out, g3, G4.out, G6.out]); clear h3'; obtain ⟨hm1, hm2, hrm, hw32, hk1, hk2, ⟨hk64a, hk64b⟩, ⟨ha64a, ha64b⟩, hts, hKs, HK⟩ := hN.hd; have hcc := bxn w T A c (some ⟨b, off, none⟩) d; rw [hk] at hcc; obtain ⟨hb1, c0, c1, c2, c3, c4, c5⟩ := hcc; obtain ⟨n00, n01, n02, n03, n04, n05⟩ := hC0.later hb1; obtain ⟨n10, n11, n12, n13, n14, n15⟩ := hC1.later hb1; unfold ndV; rw [hk]; clear hk; clear hKs hN; go_enter Tryz.func49, Tryz.ntmps49
      go_wp2_with (first | (go_at_call 34; refine (HBa.out _ hb1).mono ?_; rintro e w_1 ⟨he1, hq1⟩; rw [G1.out] at he1; subst he1; have hw1 := hb1.trans (hq1.mono hb1.size); obtain ⟨a100, a101, a102, a103, a104, a105⟩ := cl6 hq1 c0 c1 c2 c3 c4 c5; have hl1g0 := blt a100; obtain ⟨a110, a111, a112, a113, a114, a115⟩ := cl6 hq1 n00 n01 n02 n03 n04 n05; have hl1g1 := blt a110; obtain ⟨a120, a121, a122, a123, a124, a125⟩ := cl6 hq1 n10 n11 n12 n13 n14 n15; have hl1g2 := blt a120) | (go_at_call 92; refine (HNm.out _ hw1).mono ?_; rintro e w_2 ⟨he2, hq2⟩; rw [G2.out] at he2; subst he2; have hw2 := hw1.trans (hq2.mono hw1.size); obtain ⟨a200, a201, a202, a203, a204, a205⟩ := cl6 hq2 a100 a101 a102 a103 a104 a105; have hl2g0 := blt a200; obtain ⟨a210, a211, a212, a213, a214, a215⟩ := cl6 hq2 a110 a111 a112 a113 a114 a115; have hl2g1 := blt a210; obtain ⟨a220, a221, a222, a223, a224, a225⟩ := cl6 hq2 a120 a121 a122 a123 a124 a125; have hl2g2 := blt a220) | (go_at_call 94; refine (HK0x.out _ hw2).mono ?_; rintro e w_3 ⟨he3, hq3⟩; rw [G4.out] at he3; subst he3; have hw3 := hw2.trans (hq3.mono hw2.size); obtain ⟨a300, a301, a302, a303, a304, a305⟩ := cl6 hq3 a200 a201 a202 a203 a204 a205; have hl3g0 := blt a300; obtain ⟨a310, a311, a312, a313, a314, a315⟩ := cl6 hq3 a210 a211 a212 a213 a214 a215; have hl3g1 := blt a310; obtain ⟨a320, a321, a322, a323, a324, a325⟩ := cl6 hq3 a220 a221 a222 a223 a224 a225; have hl3g2 := blt a320) | (go_at_call 91; refine (HK0y.out _ hw3).mono ?_; rintro e w_4 ⟨he4, hq4⟩; rw [G6.out] at he4; subst he4; have hw4 := hw3.trans (hq4.mono hw3.size); obtain ⟨a400, a401, a402, a403, a404, a405⟩ := cl6 hq4 a300 a301 a302 a303 a304 a305; have hl4g0 := blt a400; obtain ⟨a410, a411, a412, a413, a414, a415⟩ := cl6 hq4 a310 a311 a312 a313 a314 a315; have hl4g1 := blt a410; obtain ⟨a420, a421, a422, a423, a424, a425⟩ := cl6 hq4 a320 a321 a322 a323 a324 a325; have hl4g2 := blt a420))
      go_ret; exact ⟨by rw [HV.out]; rfl, hw4⟩
   ·have g3 : (T.kids.length == 2) = false := by simp [h3']
    have el : ((T.kids.length : Int) == 2) = false := bFo; have elb : ((T.kids.length : Int) != 2) = true := bne_iff_ne.2 lq29; have HV := Lh (show Sh.stmt.ev Nd.right T = false by rw [HEV0.out, rowB_len (by simpa using h3')]; simp); clear h3'; obtain ⟨hm1, hm2, hrm, hw32, hk1, hk2, ⟨hk64a, hk64b⟩, ⟨ha64a, ha64b⟩, hts, hKs, HK⟩ := hN.hd; have hcc := bxn w T A c K d; rw [hk] at hcc; obtain ⟨hb1, c0, c1, c2, c3, c4, c5⟩ := hcc; unfold ndV; rw [hk]; clear hk; clear hKs hN; go_enter Tryz.func49, Tryz.ntmps49
    go_wp2_with (first | (go_at_call 34; refine (HBa.out _ hb1).mono ?_; rintro e w_1 ⟨he1, hq1⟩; rw [G1.out] at he1; subst he1; have hw1 := hb1.trans (hq1.mono hb1.size); obtain ⟨a100, a101, a102, a103, a104, a105⟩ := cl6 hq1 c0 c1 c2 c3 c4 c5; have hl1g0 := blt a100) | (go_at_call 92; refine (HNm.out _ hw1).mono ?_; rintro e w_2 ⟨he2, hq2⟩; rw [G2.out] at he2; subst he2; have hw2 := hw1.trans (hq2.mono hw1.size); obtain ⟨a200, a201, a202, a203, a204, a205⟩ := cl6 hq2 a100 a101 a102 a103 a104 a105; have hl2g0 := blt a200)); go_ret; exact ⟨by rw [HV.out]; rfl, hw2⟩
  | false =>
   exact lv70
 | false =>
  exact lv96
end

theorem rs15 (D : Nat) (hS : RStmtOk D) (T : Nd) (A : Option Addr) (c : Nat) (K : Option Addr) (d : Nat) (w : World) (hk : T.kind = 15) (hD : T.depth ≤ D + 1) (hW : T.weight ≤ 1000000) (hN : NodeAt w T A c K d) :
  Calls Tryz.prog 49 #[ndV T A c K d] w fun e w' => e = .returned (.bool (Sh.stmt.ev Nd.right T)) ∧ Below w.heap.size w w' := by
 have HBa := Lh (fun W (hb : Below w.heap.size w W) => by
  have := rBare_ok T A c K d W (hN.later hb); unfold ndV at this; rw [hk] at this
  exact this)
 have HTE := Lh (text_empty T.text)
 have HEV0 := Lh (show Sh.stmt.ev Nd.right T = ((T.text.size == 0) && noNumB T && rowB T.kids [Sh.ev Nd.right .expr, Sh.ev Nd.right .block, Sh.ev Nd.right (.or2 .none .block)]) by
  rw [st_at hk (tx := .non) (fm := .row [.expr, .block, (.or2 .none .block)]) rfl lq28 lq28 lq28]
  rfl)
 cases hc1 : noNumB T with
 | true =>
  have G1 := Lh hc1; clear hc1
  by_cases h2' : T.text.size = 0
  ·have g2 : (T.text.size == 0) = true := by simp [h2']
   have et : T.text.toList.isEmpty = true := by rw [HTE.out, g2]
   by_cases h3' : T.kids.length = 3
   ·have g3 : (T.kids.length == 3) = true := by simp [h3']
    have el : ((T.kids.length : Int) == 3) = true := by rw [h3']; rfl
    have elb : ((T.kids.length : Int) != 3) = false := by rw [h3']; rfl
    obtain ⟨t0, t1, t2, hks⟩ := kids_3 (l := T.kids) lq29; have hg0 : T.kids[0]? = some t0 := by rw [hks]; rfl
    obtain ⟨b, off, A0, c0, K0, d0, hKe0, hC0, hN0⟩ := hN.kid hg0; have hd0 := wKM hD hW t0 (mog hg0); have hg1 : T.kids[1]? = some t1 := by rw [hks]; rfl
    obtain ⟨b1, off1, A1, c1, K1, d1, hKe1, hC1, hN1⟩ := hN.kid hg1; have hd1 := wKM hD hW t1 (mog hg1); have hg2 : T.kids[2]? = some t2 := by rw [hks]; rfl
    obtain ⟨b2, off2, A2, c2, K2, d2, hKe2, hC2, hN2⟩ := hN.kid hg2; have hd2 := wKM hD hW t2 (mog hg2); rw [Nat.zero_mul, Nat.add_zero] at hC0; subst hKe0; injection hKe1 with e1
    injection e1 with e1 e2
    subst e1 e2; rw [show 1 * 6 = 6 from rfl] at hC1; injection hKe2 with e1
    injection e1 with e1 e2
    subst e1 e2; rw [show 2 * 6 = 12 from rfl] at hC2
    have HK0x := Lh (fun W (hb : Below w.heap.size w W) => by
     have := rExpr_ok D t0 A0 c0 K0 d0 W hd0.1 hd0.2 (hN0.later hb); unfold ndV at this
     exact this)
    have HK1x := Lh (fun W (hb : Below w.heap.size w W) => by
     have := rBlock_ok D hS t1 A1 c1 K1 d1 W lq29 hd1.2 (hN1.later hb); unfold ndV at this
     exact this)
    have HK2x := Lh (fun W (hb : Below w.heap.size w W) => by
     have := rNone_ok t2 A2 c2 K2 d2 W (hN2.later hb); unfold ndV at this
     exact this)
    have HK2y := Lh (fun W (hb : Below w.heap.size w W) => by
     have := rBlock_ok D hS t2 A2 c2 K2 d2 W lq29 hd2.2 (hN2.later hb); unfold ndV at this
     exact this)
    have j0a : (0 : Int) < (T.kids.length : Int) := by omega
    have j0b : 0 < T.kids.length := by omega
    have j1a : (1 : Int) < (T.kids.length : Int) := by omega
    have j1b : 1 < T.kids.length := by omega
    have j2a : (2 : Int) < (T.kids.length : Int) := by omega
    have j2b : 2 < T.kids.length := by omega
    have HEVk := Lh (show Sh.stmt.ev Nd.right T = ((T.text.size == 0) && noNumB T && ((Sh.expr.ev Nd.right t0) && (Sh.block.ev Nd.right t1) && (Sh.none.ev Nd.right t2 || Sh.block.ev Nd.right t2))) by rw [HEV0.out, hks]; simp [rowB, Sh.ev, Bool.and_assoc]); clear hks hg0 hg1 hg2 hN0 hN1 hN2 hd0 hd1 hd2
    cases hc4 : Sh.expr.ev Nd.right t0 with
    | true =>
     have G4 := Lh hc4; clear hc4
     cases hc5 : Sh.block.ev Nd.right t1 with
     | true =>
      have G5 := Lh hc5; clear hc5
      cases hc6 : Sh.none.ev Nd.right t2 with
      | true =>
       have G6 := Lh hc6; clear hc6; have HV := Lh (show Sh.stmt.ev Nd.right T = true by rw [HEVk.out]; simp [G1.out, g2, g3, G4.out, G5.out, G6.out]); clear h2' h3'; obtain ⟨hm1, hm2, hrm, hw32, hk1, hk2, ⟨hk64a, hk64b⟩, ⟨ha64a, ha64b⟩, hts, hKs, HK⟩ := hN.hd; have hcc := bxn w T A c (some ⟨b, off, none⟩) d; rw [hk] at hcc; obtain ⟨hb1, c0, c1, c2, c3, c4, c5⟩ := hcc; obtain ⟨n00, n01, n02, n03, n04, n05⟩ := hC0.later hb1; obtain ⟨n10, n11, n12, n13, n14, n15⟩ := hC1.later hb1; obtain ⟨n20, n21, n22, n23, n24, n25⟩ := hC2.later hb1; unfold ndV; rw [hk]; clear hk; clear hKs hN
       go_enter Tryz.func49, Tryz.ntmps49
       go_wp2_with (first | (go_at_call 34; with_reducible refine (HBa.out _ hb1).mono ?_; rintro e w_1 ⟨he1, hq1⟩; rw [G1.out] at he1; subst he1; have hw1 := hb1.trans (hq1.mono hb1.size); obtain ⟨a100, a101, a102, a103, a104, a105⟩ := cl6 hq1 c0 c1 c2 c3 c4 c5; have hl1g0 := blt a100; obtain ⟨a110, a111, a112, a113, a114, a115⟩ := cl6 hq1 n00 n01 n02 n03 n04 n05; have hl1g1 := blt a110; obtain ⟨a120, a121, a122, a123, a124, a125⟩ := cl6 hq1 n10 n11 n12 n13 n14 n15; have hl1g2 := blt a120; obtain ⟨a130, a131, a132, a133, a134, a135⟩ := cl6 hq1 n20 n21 n22 n23 n24 n25; have hl1g3 := blt a130) | (go_at_call 91; with_reducible refine (HK0x.out _ hw1).mono ?_; rintro e w_2 ⟨he2, hq2⟩; rw [G4.out] at he2; subst he2; have hw2 := hw1.trans (hq2.mono hw1.size); obtain ⟨a200, a201, a202, a203, a204, a205⟩ := cl6 hq2 a100 a101 a102 a103 a104 a105; have hl2g0 := blt a200; obtain ⟨a210, a211, a212, a213, a214, a215⟩ := cl6 hq2 a110 a111 a112 a113 a114 a115; have hl2g1 := blt a210; obtain ⟨a220, a221, a222, a223, a224, a225⟩ := cl6 hq2 a120 a121 a122 a123 a124 a125; have hl2g2 := blt a220; obtain ⟨a230, a231, a232, a233, a234, a235⟩ := cl6 hq2 a130 a131 a132 a133 a134 a135; have hl2g3 := blt a230) | (go_at_call 95; with_reducible refine (HK1x.out _ hw2).mono ?_; rintro e w_3 ⟨he3, hq3⟩; rw [G5.out] at he3; subst he3; have hw3 := hw2.trans (hq3.mono hw2.size); obtain ⟨a300, a301, a302, a303, a304, a305⟩ := cl6 hq3 a200 a201 a202 a203 a204 a205; have hl3g0 := blt a300; obtain ⟨a310, a311, a312, a313, a314, a315⟩ := cl6 hq3 a210 a211 a212 a213 a214 a215; have hl3g1 := blt a310; obtain ⟨a320, a321, a322, a323, a324, a325⟩ := cl6 hq3 a220 a221 a222 a223 a224 a225; have hl3g2 := blt a320; obtain ⟨a330, a331, a332, a333, a334, a335⟩ := cl6 hq3 a230 a231 a232 a233 a234 a235; have hl3g3 := blt a330) | (go_at_call 94; with_reducible refine (HK2x.out _ hw3).mono ?_; rintro e w_4 ⟨he4, hq4⟩; rw [G6.out] at he4; subst he4; have hw4 := hw3.trans (hq4.mono hw3.size); obtain ⟨a400, a401, a402, a403, a404, a405⟩ := cl6 hq4 a300 a301 a302 a303 a304 a305; have hl4g0 := blt a400; obtain ⟨a410, a411, a412, a413, a414, a415⟩ := cl6 hq4 a310 a311 a312 a313 a314 a315; have hl4g1 := blt a410; obtain ⟨a420, a421, a422, a423, a424, a425⟩ := cl6 hq4 a320 a321 a322 a323 a324 a325; have hl4g2 := blt a420; obtain ⟨a430, a431, a432, a433, a434, a435⟩ := cl6 hq4 a330 a331 a332 a333 a334 a335; have hl4g3 := blt a430))
       go_ret; exact ⟨by rw [HV.out]; rfl, hw4⟩
      | false =>
       have G6 := Lh hc6; clear hc6
       cases hc7 : Sh.block.ev Nd.right t2 with
       | true =>
        have G7 := Lh hc7; clear hc7; have HV := Lh (show Sh.stmt.ev Nd.right T = true by rw [HEVk.out]; simp [G1.out, g2, g3, G4.out, G5.out, G6.out, G7.out]); exact lv13
       | false =>
        have G7 := Lh hc7; clear hc7; have HV := Lh (show Sh.stmt.ev Nd.right T = false by rw [HEVk.out]; simp [G1.out, g2, g3, G4.out, G5.out, G6.out, G7.out]); exact lv13
     | false =>
      have G5 := Lh hc5; clear hc5; have HV := Lh (show Sh.stmt.ev Nd.right T = false by rw [HEVk.out]; simp [G1.out, g2, g3, G4.out, G5.out]); clear h2' h3'; obtain ⟨hm1, hm2, hrm, hw32, hk1, hk2, ⟨hk64a, hk64b⟩, ⟨ha64a, ha64b⟩, hts, hKs, HK⟩ := hN.hd; have hcc := bxn w T A c (some ⟨b, off, none⟩) d; rw [hk] at hcc; obtain ⟨hb1, c0, c1, c2, c3, c4, c5⟩ := hcc; obtain ⟨n00, n01, n02, n03, n04, n05⟩ := hC0.later hb1; obtain ⟨n10, n11, n12, n13, n14, n15⟩ := hC1.later hb1; obtain ⟨n20, n21, n22, n23, n24, n25⟩ := hC2.later hb1; unfold ndV; rw [hk]; clear hk; clear hKs hN
      go_enter Tryz.func49, Tryz.ntmps49
      go_wp2_with (first | (go_at_call 34; with_reducible refine (HBa.out _ hb1).mono ?_; rintro e w_1 ⟨he1, hq1⟩; rw [G1.out] at he1; subst he1; have hw1 := hb1.trans (hq1.mono hb1.size); obtain ⟨a100, a101, a102, a103, a104, a105⟩ := cl6 hq1 c0 c1 c2 c3 c4 c5; have hl1g0 := blt a100; obtain ⟨a110, a111, a112, a113, a114, a115⟩ := cl6 hq1 n00 n01 n02 n03 n04 n05; have hl1g1 := blt a110; obtain ⟨a120, a121, a122, a123, a124, a125⟩ := cl6 hq1 n10 n11 n12 n13 n14 n15; have hl1g2 := blt a120; obtain ⟨a130, a131, a132, a133, a134, a135⟩ := cl6 hq1 n20 n21 n22 n23 n24 n25; have hl1g3 := blt a130) | (go_at_call 91; with_reducible refine (HK0x.out _ hw1).mono ?_; rintro e w_2 ⟨he2, hq2⟩; rw [G4.out] at he2; subst he2; have hw2 := hw1.trans (hq2.mono hw1.size); obtain ⟨a200, a201, a202, a203, a204, a205⟩ := cl6 hq2 a100 a101 a102 a103 a104 a105; have hl2g0 := blt a200; obtain ⟨a210, a211, a212, a213, a214, a215⟩ := cl6 hq2 a110 a111 a112 a113 a114 a115; have hl2g1 := blt a210; obtain ⟨a220, a221, a222, a223, a224, a225⟩ := cl6 hq2 a120 a121 a122 a123 a124 a125; have hl2g2 := blt a220; obtain ⟨a230, a231, a232, a233, a234, a235⟩ := cl6 hq2 a130 a131 a132 a133 a134 a135; have hl2g3 := blt a230) | (go_at_call 95; with_reducible refine (HK1x.out _ hw2).mono ?_; rintro e w_3 ⟨he3, hq3⟩; rw [G5.out] at he3; subst he3; have hw3 := hw2.trans (hq3.mono hw2.size); obtain ⟨a300, a301, a302, a303, a304, a305⟩ := cl6 hq3 a200 a201 a202 a203 a204 a205; have hl3g0 := blt a300; obtain ⟨a310, a311, a312, a313, a314, a315⟩ := cl6 hq3 a210 a211 a212 a213 a214 a215; have hl3g1 := blt a310; obtain ⟨a320, a321, a322, a323, a324, a325⟩ := cl6 hq3 a220 a221 a222 a223 a224 a225; have hl3g2 := blt a320; obtain ⟨a330, a331, a332, a333, a334, a335⟩ := cl6 hq3 a230 a231 a232 a233 a234 a235; have hl3g3 := blt a330))
      go_ret; exact ⟨by rw [HV.out]; rfl, hw3⟩
    | false =>
     have G4 := Lh hc4; clear hc4; have HV := Lh (show Sh.stmt.ev Nd.right T = false by rw [HEVk.out]; simp [G1.out, g2, g3, G4.out]); clear h2' h3'; obtain ⟨hm1, hm2, hrm, hw32, hk1, hk2, ⟨hk64a, hk64b⟩, ⟨ha64a, ha64b⟩, hts, hKs, HK⟩ := hN.hd; have hcc := bxn w T A c (some ⟨b, off, none⟩) d; rw [hk] at hcc; obtain ⟨hb1, c0, c1, c2, c3, c4, c5⟩ := hcc; obtain ⟨n00, n01, n02, n03, n04, n05⟩ := hC0.later hb1; obtain ⟨n10, n11, n12, n13, n14, n15⟩ := hC1.later hb1; obtain ⟨n20, n21, n22, n23, n24, n25⟩ := hC2.later hb1; unfold ndV; rw [hk]; clear hk; clear hKs hN
     go_enter Tryz.func49, Tryz.ntmps49
     go_wp2_with (first | (go_at_call 34; with_reducible refine (HBa.out _ hb1).mono ?_; rintro e w_1 ⟨he1, hq1⟩; rw [G1.out] at he1; subst he1; have hw1 := hb1.trans (hq1.mono hb1.size); obtain ⟨a100, a101, a102, a103, a104, a105⟩ := cl6 hq1 c0 c1 c2 c3 c4 c5; have hl1g0 := blt a100; obtain ⟨a110, a111, a112, a113, a114, a115⟩ := cl6 hq1 n00 n01 n02 n03 n04 n05; have hl1g1 := blt a110; obtain ⟨a120, a121, a122, a123, a124, a125⟩ := cl6 hq1 n10 n11 n12 n13 n14 n15; have hl1g2 := blt a120; obtain ⟨a130, a131, a132, a133, a134, a135⟩ := cl6 hq1 n20 n21 n22 n23 n24 n25; have hl1g3 := blt a130) | (go_at_call 91; with_reducible refine (HK0x.out _ hw1).mono ?_; rintro e w_2 ⟨he2, hq2⟩; rw [G4.out] at he2; subst he2; have hw2 := hw1.trans (hq2.mono hw1.size); obtain ⟨a200, a201, a202, a203, a204, a205⟩ := cl6 hq2 a100 a101 a102 a103 a104 a105; have hl2g0 := blt a200; obtain ⟨a210, a211, a212, a213, a214, a215⟩ := cl6 hq2 a110 a111 a112 a113 a114 a115; have hl2g1 := blt a210; obtain ⟨a220, a221, a222, a223, a224, a225⟩ := cl6 hq2 a120 a121 a122 a123 a124 a125; have hl2g2 := blt a220; obtain ⟨a230, a231, a232, a233, a234, a235⟩ := cl6 hq2 a130 a131 a132 a133 a134 a135; have hl2g3 := blt a230))
     go_ret; exact ⟨by rw [HV.out]; rfl, hw2⟩
   ·have g3 : (T.kids.length == 3) = false := by simp [h3']
    have el : ((T.kids.length : Int) == 3) = false := bFo; have elb : ((T.kids.length : Int) != 3) = true := bne_iff_ne.2 lq29; have HV := Lh (show Sh.stmt.ev Nd.right T = false by rw [HEV0.out, rowB_len (by simpa using h3')]; simp); clear h2' h3'; exact lv104
  ·have g2 : (T.text.size == 0) = false := by simp [h2']
   have et : T.text.toList.isEmpty = false := by rw [HTE.out, g2]
   have HV := Lh (show Sh.stmt.ev Nd.right T = false by rw [HEV0.out]; simp [G1.out, g2]); clear h2'; exact lv104
 | false =>
  have G1 := Lh hc1; clear hc1; have HV := Lh (show Sh.stmt.ev Nd.right T = false by rw [HEV0.out]; simp [G1.out]); exact lv104
theorem rStmt_step (D : Nat) (hS : RStmtOk D) : RStmtOk (D + 1) := by
 intro T A c K d w hD hW hN
 by_cases h3 : T.kind = 3
 ·exact rs3 D hS T A c K d w h3 hD hW hN
 by_cases h4 : T.kind = 4
 ·exact rs4 D hS T A c K d w h4 hD hW hN
 by_cases h5 : T.kind = 5
 ·exact rs5 D hS T A c K d w h5 hD hW hN
 by_cases h6 : T.kind = 6
 ·exact rs6 D hS T A c K d w h6 hD hW hN
 by_cases h7 : T.kind = 7
 ·exact rs7 D hS T A c K d w h7 hD hW hN
 by_cases h8 : T.kind = 8
 ·exact rs8 D hS T A c K d w h8 hD hW hN
 by_cases h9 : T.kind = 9
 ·exact rs9 D hS T A c K d w h9 hD hW hN
 by_cases h10 : T.kind = 10
 ·exact rs10 D hS T A c K d w h10 hD hW hN
 by_cases h11 : T.kind = 11
 ·exact rs11 D hS T A c K d w h11 hD hW hN
 by_cases h12 : T.kind = 12
 ·exact rs12 D hS T A c K d w h12 hD hW hN
 by_cases h13 : T.kind = 13
 ·exact rs13 D hS T A c K d w h13 hD hW hN
 by_cases h14 : T.kind = 14
 ·exact rs14 D hS T A c K d w h14 hD hW hN
 by_cases h15 : T.kind = 15
 ·exact rs15 D hS T A c K d w h15 hD hW hN
 by_cases h16 : T.kind = 16
 ·exact rs16 D hS T A c K d w h16 hD hW hN
 by_cases h17 : T.kind = 17
 ·exact rs17 D hS T A c K d w h17 hD hW hN
 by_cases h18 : T.kind = 18
 ·exact rs18 D hS T A c K d w h18 hD hW hN
 by_cases h20 : T.kind = 20
 ·exact rs20 D hS T A c K d w h20 hD hW hN
 by_cases h21 : T.kind = 21
 ·exact rs21 D hS T A c K d w h21 hD hW hN
 refine rs_other D hS T A c K d w hD hW hN ?_ (beq_eq_false_iff_ne.2 h3) (beq_eq_false_iff_ne.2 h4) (beq_eq_false_iff_ne.2 h5) (beq_eq_false_iff_ne.2 h6) (beq_eq_false_iff_ne.2 h7) (beq_eq_false_iff_ne.2 h8) (beq_eq_false_iff_ne.2 h9) (beq_eq_false_iff_ne.2 h10) (beq_eq_false_iff_ne.2 h11) (beq_eq_false_iff_ne.2 h12) (beq_eq_false_iff_ne.2 h13) (beq_eq_false_iff_ne.2 h14) (beq_eq_false_iff_ne.2 h15) (beq_eq_false_iff_ne.2 h16) (beq_eq_false_iff_ne.2 h17) (beq_eq_false_iff_ne.2 h18) (beq_eq_false_iff_ne.2 h20) (beq_eq_false_iff_ne.2 h21)
 by_cases h19 : T.kind = 19
 ·simp [Sh.ev, h19]
 by_cases hlo : 3 ≤ T.kind
 ·by_cases hhi : T.kind ≤ 21
  ·omega
  ·simp [Sh.ev, hhi]
 ·simp [Sh.ev, hlo]
theorem rStmt_ok : ∀ D, RStmtOk D := by
 intro D
 induction D with
 | zero => intro T A c K d W hD; rw [T.depth_eq] at hD; omega
 | succ D ih => exact rStmt_step D ih
end
end Go.Proofs.YtjefhdlncikhmaaGreatDoor
