/- Joined by a program: Q7a, Q7b, Q7c. -/
import Derived.Test.YtjefhdlncikhmaaGreatDoorPT20
namespace Go.Proofs.YtjefhdlncikhmaaGreatDoor
set_option linter.unusedVariables false
set_option linter.unusedSimpArgs false
set_option maxRecDepth 1000000
set_option maxHeartbeats 16000000
section
open Go.RowKit
open List (length_append length_cons length_nil length_singleton)
section
variable (D : Nat) (hS : RStmtOk D) (T : Nd) (A : Option Addr) (c : Nat) (K : Option Addr) (d : Nat) (w : World)
include D hS T A c K d w
theorem rs3 (hk : T.kind = 3) (hD : T.depth ≤ D + 1) (hW : T.weight ≤ 1000000) (hN : NodeAt w T A c K d) :
  Calls Tryz.prog 49 #[ndV T A c K d] w fun e w' => e = .returned (.bool (Sh.stmt.ev Nd.right T)) ∧ Below w.heap.size w w' := by
 have _ := hS
 have HBa := Lh (fun W (hb : Below w.heap.size w W) => by
  have := rBare_ok T A c K d W (hN.later hb); unfold ndV at this; rw [hk] at this
  exact this)
 have HTE := Lh (text_empty T.text)
 have HEV0 := Lh (show Sh.stmt.ev Nd.right T = ((T.text.size == 0) && noNumB T && rowB T.kids [Sh.ev Nd.right .expr]) by
  rw [st_at hk (tx := .non) (fm := .row [.expr]) rfl lq28 lq28 lq28]
  rfl)
 cases hc1 : noNumB T with
 | true =>
  have G1 := Lh hc1; clear hc1
  by_cases h2' : T.text.size = 0
  ·have g2 : (T.text.size == 0) = true := by simp [h2']
   have et : T.text.toList.isEmpty = true := by rw [HTE.out, g2]
   by_cases h3' : T.kids.length = 1
   ·have g3 : (T.kids.length == 1) = true := by simp [h3']
    have el : ((T.kids.length : Int) == 1) = true := by rw [h3']; rfl
    have elb : ((T.kids.length : Int) != 1) = false := by rw [h3']; rfl
    obtain ⟨t0, hks⟩ := kids_1 (l := T.kids) lq29; have hg0 : T.kids[0]? = some t0 := by rw [hks]; rfl
    obtain ⟨b, off, A0, c0, K0, d0, hKe0, hC0, hN0⟩ := hN.kid hg0; have hd0 := wKM hD hW t0 (mog hg0); rw [Nat.zero_mul, Nat.add_zero] at hC0; subst hKe0
    have HK0x := Lh (fun W (hb : Below w.heap.size w W) => by
     have := rExpr_ok D t0 A0 c0 K0 d0 W hd0.1 hd0.2 (hN0.later hb); unfold ndV at this
     exact this)
    have j0a : (0 : Int) < (T.kids.length : Int) := by omega
    have j0b : 0 < T.kids.length := by omega
    have HEVk := Lh (show Sh.stmt.ev Nd.right T = ((T.text.size == 0) && noNumB T && ((Sh.expr.ev Nd.right t0))) by rw [HEV0.out, hks]; simp [rowB, Sh.ev, Bool.and_assoc]); clear hks hg0 hN0 hd0
    cases hc4 : Sh.expr.ev Nd.right t0 with
    | true =>
     have G4 := Lh hc4; clear hc4; have HV := Lh (show Sh.stmt.ev Nd.right T = true by rw [HEVk.out]; simp [G1.out, g2, g3, G4.out]); exact lv44
    | false =>
     have G4 := Lh hc4; clear hc4; have HV := Lh (show Sh.stmt.ev Nd.right T = false by rw [HEVk.out]; simp [G1.out, g2, g3, G4.out]); exact lv44
   ·exact lv75
  ·exact lv89
 | false =>
  exact lv96
theorem rs4 (hk : T.kind = 4) (hD : T.depth ≤ D + 1) (hW : T.weight ≤ 1000000) (hN : NodeAt w T A c K d) :
  Calls Tryz.prog 49 #[ndV T A c K d] w fun e w' => e = .returned (.bool (Sh.stmt.ev Nd.right T)) ∧ Below w.heap.size w w' := by
 have _ := hS
 have HBa := Lh (fun W (hb : Below w.heap.size w W) => by
  have := rBare_ok T A c K d W (hN.later hb); unfold ndV at this; rw [hk] at this
  exact this)
 have HTE := Lh (text_empty T.text)
 have HEV0 := Lh (show Sh.stmt.ev Nd.right T = ((T.text.size == 0) && noNumB T && rowB T.kids [Sh.ev Nd.right .target, Sh.ev Nd.right .expr]) by
  rw [st_at hk (tx := .non) (fm := .row [.target, .expr]) rfl lq28 lq28 lq28]
  rfl)
 cases hc1 : noNumB T with
 | true =>
  have G1 := Lh hc1; clear hc1
  by_cases h2' : T.text.size = 0
  ·have g2 : (T.text.size == 0) = true := by simp [h2']
   have et : T.text.toList.isEmpty = true := by rw [HTE.out, g2]
   by_cases h3' : T.kids.length = 2
   ·have g3 : (T.kids.length == 2) = true := by simp [h3']
    have el : ((T.kids.length : Int) == 2) = true := by rw [h3']; rfl
    have elb : ((T.kids.length : Int) != 2) = false := by rw [h3']; rfl
    obtain ⟨t0, t1, hks⟩ := kids_2 (l := T.kids) lq29; have hg0 : T.kids[0]? = some t0 := by rw [hks]; rfl
    obtain ⟨b, off, A0, c0, K0, d0, hKe0, hC0, hN0⟩ := hN.kid hg0; have hd0 := wKM hD hW t0 (mog hg0); have hg1 : T.kids[1]? = some t1 := by rw [hks]; rfl
    obtain ⟨b1, off1, A1, c1, K1, d1, hKe1, hC1, hN1⟩ := hN.kid hg1; have hd1 := wKM hD hW t1 (mog hg1); rw [Nat.zero_mul, Nat.add_zero] at hC0; subst hKe0; injection hKe1 with e1
    injection e1 with e1 e2
    subst e1 e2; rw [show 1 * 6 = 6 from rfl] at hC1
    have HK0x := Lh (fun W (hb : Below w.heap.size w W) => by
     have := rTarget_ok D (rExpr_ok D) t0 A0 c0 K0 d0 W hd0.1 hd0.2 (hN0.later hb); unfold ndV at this
     exact this)
    have HK1x := Lh (fun W (hb : Below w.heap.size w W) => by
     have := rExpr_ok D t1 A1 c1 K1 d1 W hd1.1 hd1.2 (hN1.later hb); unfold ndV at this
     exact this)
    have j0a : (0 : Int) < (T.kids.length : Int) := by omega
    have j0b : 0 < T.kids.length := by omega
    have j1a : (1 : Int) < (T.kids.length : Int) := by omega
    have j1b : 1 < T.kids.length := by omega
    have HEVk := Lh (show Sh.stmt.ev Nd.right T = ((T.text.size == 0) && noNumB T && ((Sh.target.ev Nd.right t0) && (Sh.expr.ev Nd.right t1))) by rw [HEV0.out, hks]; simp [rowB, Sh.ev, Bool.and_assoc]); clear hks hg0 hg1 hN0 hN1 hd0 hd1
    cases hc4 : Sh.target.ev Nd.right t0 with
    | true =>
     have G4 := Lh hc4; clear hc4
     cases hc5 : Sh.expr.ev Nd.right t1 with
     | true =>
      have G5 := Lh hc5; clear hc5; have HV := Lh (show Sh.stmt.ev Nd.right T = true by rw [HEVk.out]; simp [G1.out, g2, g3, G4.out, G5.out]); exact lv24
     | false =>
      have G5 := Lh hc5; clear hc5; have HV := Lh (show Sh.stmt.ev Nd.right T = false by rw [HEVk.out]; simp [G1.out, g2, g3, G4.out, G5.out]); exact lv24
    | false =>
     have G4 := Lh hc4; clear hc4; have HV := Lh (show Sh.stmt.ev Nd.right T = false by rw [HEVk.out]; simp [G1.out, g2, g3, G4.out]); clear h2' h3'; obtain ⟨hm1, hm2, hrm, hw32, hk1, hk2, ⟨hk64a, hk64b⟩, ⟨ha64a, ha64b⟩, hts, hKs, HK⟩ := hN.hd; have hcc := bxn w T A c (some ⟨b, off, none⟩) d; rw [hk] at hcc; obtain ⟨hb1, c0, c1, c2, c3, c4, c5⟩ := hcc; obtain ⟨n00, n01, n02, n03, n04, n05⟩ := hC0.later hb1; obtain ⟨n10, n11, n12, n13, n14, n15⟩ := hC1.later hb1; unfold ndV; rw [hk]; clear hk; clear hKs hN; go_enter Tryz.func49, Tryz.ntmps49
     go_wp2_with (first | (go_at_call 34; refine (HBa.out _ hb1).mono ?_; rintro e w_1 ⟨he1, hq1⟩; rw [G1.out] at he1; subst he1; have hw1 := hb1.trans (hq1.mono hb1.size); obtain ⟨a100, a101, a102, a103, a104, a105⟩ := cl6 hq1 c0 c1 c2 c3 c4 c5; have hl1g0 := blt a100; obtain ⟨a110, a111, a112, a113, a114, a115⟩ := cl6 hq1 n00 n01 n02 n03 n04 n05; have hl1g1 := blt a110; obtain ⟨a120, a121, a122, a123, a124, a125⟩ := cl6 hq1 n10 n11 n12 n13 n14 n15; have hl1g2 := blt a120) | (go_at_call 90; refine (HK0x.out _ hw1).mono ?_; rintro e w_2 ⟨he2, hq2⟩; rw [G4.out] at he2; subst he2; have hw2 := hw1.trans (hq2.mono hw1.size); obtain ⟨a200, a201, a202, a203, a204, a205⟩ := cl6 hq2 a100 a101 a102 a103 a104 a105; have hl2g0 := blt a200; obtain ⟨a210, a211, a212, a213, a214, a215⟩ := cl6 hq2 a110 a111 a112 a113 a114 a115; have hl2g1 := blt a210; obtain ⟨a220, a221, a222, a223, a224, a225⟩ := cl6 hq2 a120 a121 a122 a123 a124 a125; have hl2g2 := blt a220))
     go_ret; exact ⟨by rw [HV.out]; rfl, hw2⟩
   ·exact lv76
  ·exact lv89
 | false =>
  exact lv96
theorem rs7 (hk : T.kind = 7) (hD : T.depth ≤ D + 1) (hW : T.weight ≤ 1000000) (hN : NodeAt w T A c K d) :
  Calls Tryz.prog 49 #[ndV T A c K d] w fun e w' => e = .returned (.bool (Sh.stmt.ev Nd.right T)) ∧ Below w.heap.size w w' := by
 have _ := hS
 have HBa := Lh (fun W (hb : Below w.heap.size w W) => by
  have := rBare_ok T A c K d W (hN.later hb); unfold ndV at this; rw [hk] at this
  exact this)
 have HTE := Lh (text_empty T.text)
 have HEV0 := Lh (show Sh.stmt.ev Nd.right T = ((T.text.size == 0) && noNumB T && rowB T.kids [Sh.ev Nd.right .target]) by
  rw [st_at hk (tx := .non) (fm := .row [.target]) rfl lq28 lq28 lq28]
  rfl)
 cases hc1 : noNumB T with
 | true =>
  have G1 := Lh hc1; clear hc1
  by_cases h2' : T.text.size = 0
  ·have g2 : (T.text.size == 0) = true := by simp [h2']
   have et : T.text.toList.isEmpty = true := by rw [HTE.out, g2]
   by_cases h3' : T.kids.length = 1
   ·have g3 : (T.kids.length == 1) = true := by simp [h3']
    have el : ((T.kids.length : Int) == 1) = true := by rw [h3']; rfl
    have elb : ((T.kids.length : Int) != 1) = false := by rw [h3']; rfl
    obtain ⟨t0, hks⟩ := kids_1 (l := T.kids) lq29; have hg0 : T.kids[0]? = some t0 := by rw [hks]; rfl
    obtain ⟨b, off, A0, c0, K0, d0, hKe0, hC0, hN0⟩ := hN.kid hg0; have hd0 := wKM hD hW t0 (mog hg0); rw [Nat.zero_mul, Nat.add_zero] at hC0; subst hKe0
    have HK0x := Lh (fun W (hb : Below w.heap.size w W) => by
     have := rTarget_ok D (rExpr_ok D) t0 A0 c0 K0 d0 W hd0.1 hd0.2 (hN0.later hb); unfold ndV at this
     exact this)
    have j0a : (0 : Int) < (T.kids.length : Int) := by omega
    have j0b : 0 < T.kids.length := by omega
    have HEVk := Lh (show Sh.stmt.ev Nd.right T = ((T.text.size == 0) && noNumB T && ((Sh.target.ev Nd.right t0))) by rw [HEV0.out, hks]; simp [rowB, Sh.ev, Bool.and_assoc]); clear hks hg0 hN0 hd0
    cases hc4 : Sh.target.ev Nd.right t0 with
    | true =>
     have G4 := Lh hc4; clear hc4; have HV := Lh (show Sh.stmt.ev Nd.right T = true by rw [HEVk.out]; simp [G1.out, g2, g3, G4.out]); exact lv45
    | false =>
     have G4 := Lh hc4; clear hc4; have HV := Lh (show Sh.stmt.ev Nd.right T = false by rw [HEVk.out]; simp [G1.out, g2, g3, G4.out]); exact lv45
   ·exact lv75
  ·exact lv89
 | false =>
  exact lv96
theorem rs8 (hk : T.kind = 8) (hD : T.depth ≤ D + 1) (hW : T.weight ≤ 1000000) (hN : NodeAt w T A c K d) :
  Calls Tryz.prog 49 #[ndV T A c K d] w fun e w' => e = .returned (.bool (Sh.stmt.ev Nd.right T)) ∧ Below w.heap.size w w' := by
 have _ := hS
 exact lv10
theorem rs9 (hk : T.kind = 9) (hD : T.depth ≤ D + 1) (hW : T.weight ≤ 1000000) (hN : NodeAt w T A c K d) :
  Calls Tryz.prog 49 #[ndV T A c K d] w fun e w' => e = .returned (.bool (Sh.stmt.ev Nd.right T)) ∧ Below w.heap.size w w' := by
 have _ := hS
 exact lv10
theorem rs10 (hk : T.kind = 10) (hD : T.depth ≤ D + 1) (hW : T.weight ≤ 1000000) (hN : NodeAt w T A c K d) :
  Calls Tryz.prog 49 #[ndV T A c K d] w fun e w' => e = .returned (.bool (Sh.stmt.ev Nd.right T)) ∧ Below w.heap.size w w' := by
 have _ := hS
 exact lv10
theorem rs11 (hk : T.kind = 11) (hD : T.depth ≤ D + 1) (hW : T.weight ≤ 1000000) (hN : NodeAt w T A c K d) :
  Calls Tryz.prog 49 #[ndV T A c K d] w fun e w' => e = .returned (.bool (Sh.stmt.ev Nd.right T)) ∧ Below w.heap.size w w' := by
 have _ := hS
 exact lv1
end

section
variable (D : Nat) (hS : RStmtOk D) (T : Nd) (A : Option Addr) (c : Nat) (K : Option Addr) (d : Nat) (w : World)
include D hS T A c K d w
theorem rs5 (hk : T.kind = 5) (hD : T.depth ≤ D + 1) (hW : T.weight ≤ 1000000) (hN : NodeAt w T A c K d) :
  Calls Tryz.prog 49 #[ndV T A c K d] w fun e w' => e = .returned (.bool (Sh.stmt.ev Nd.right T)) ∧ Below w.heap.size w w' := by
 have _ := hS
 have HBa := Lh (fun W (hb : Below w.heap.size w W) => by
  have := rBare_ok T A c K d W (hN.later hb); unfold ndV at this; rw [hk] at this
  exact this)
 have HTE := Lh (text_empty T.text)
 have HEV0 := Lh (show Sh.stmt.ev Nd.right T = ((T.text.size == 0) && noNumB T && rowB T.kids [Sh.ev Nd.right (.of 23), Sh.ev Nd.right .expr]) by
  rw [st_at hk (tx := .non) (fm := .row [(.of 23), .expr]) rfl lq28 lq28 lq28]
  rfl)
 cases hc1 : noNumB T with
 | true =>
  have G1 := Lh hc1; clear hc1
  by_cases h2' : T.text.size = 0
  ·have g2 : (T.text.size == 0) = true := by simp [h2']
   have et : T.text.toList.isEmpty = true := by rw [HTE.out, g2]
   by_cases h3' : T.kids.length = 2
   ·have g3 : (T.kids.length == 2) = true := by simp [h3']
    have el : ((T.kids.length : Int) == 2) = true := by rw [h3']; rfl
    have elb : ((T.kids.length : Int) != 2) = false := by rw [h3']; rfl
    obtain ⟨t0, t1, hks⟩ := kids_2 (l := T.kids) lq29; have hg0 : T.kids[0]? = some t0 := by rw [hks]; rfl
    obtain ⟨b, off, A0, c0, K0, d0, hKe0, hC0, hN0⟩ := hN.kid hg0; have hd0 := wKM hD hW t0 (mog hg0); have hg1 : T.kids[1]? = some t1 := by rw [hks]; rfl
    obtain ⟨b1, off1, A1, c1, K1, d1, hKe1, hC1, hN1⟩ := hN.kid hg1; have hd1 := wKM hD hW t1 (mog hg1); rw [Nat.zero_mul, Nat.add_zero] at hC0; subst hKe0; injection hKe1 with e1
    injection e1 with e1 e2
    subst e1 e2; rw [show 1 * 6 = 6 from rfl] at hC1
    have HK0x := Lh (fun W (hb : Below w.heap.size w W) => by
     have := rSome_ok D (rExpr_ok D) t0 A0 c0 K0 d0 W lq29 hd0.2 (hN0.later hb); unfold ndV at this
     exact this)
    have HK1x := Lh (fun W (hb : Below w.heap.size w W) => by
     have := rExpr_ok D t1 A1 c1 K1 d1 W hd1.1 hd1.2 (hN1.later hb); unfold ndV at this
     exact this)
    have j0a : (0 : Int) < (T.kids.length : Int) := by omega
    have j0b : 0 < T.kids.length := by omega
    have j1a : (1 : Int) < (T.kids.length : Int) := by omega
    have j1b : 1 < T.kids.length := by omega
    have HEVk := Lh (show Sh.stmt.ev Nd.right T = ((T.text.size == 0) && noNumB T && (((Sh.of 23).ev Nd.right t0) && (Sh.expr.ev Nd.right t1))) by rw [HEV0.out, hks]; simp [rowB, Sh.ev, Bool.and_assoc]); clear hks hg0 hg1 hN0 hN1 hd0 hd1
    cases hc4 : (Sh.of 23).ev Nd.right t0 with
    | true =>
     have G4 := Lh hc4; clear hc4
     cases hc5 : Sh.expr.ev Nd.right t1 with
     | true =>
      have G5 := Lh hc5; clear hc5; have HV := Lh (show Sh.stmt.ev Nd.right T = true by rw [HEVk.out]; simp [G1.out, g2, g3, G4.out, G5.out]); exact lv25
     | false =>
      have G5 := Lh hc5; clear hc5; have HV := Lh (show Sh.stmt.ev Nd.right T = false by rw [HEVk.out]; simp [G1.out, g2, g3, G4.out, G5.out]); exact lv25
    | false =>
     have G4 := Lh hc4; clear hc4; have HV := Lh (show Sh.stmt.ev Nd.right T = false by rw [HEVk.out]; simp [G1.out, g2, g3, G4.out]); clear h2' h3'; obtain ⟨hm1, hm2, hrm, hw32, hk1, hk2, ⟨hk64a, hk64b⟩, ⟨ha64a, ha64b⟩, hts, hKs, HK⟩ := hN.hd; have hcc := bxn w T A c (some ⟨b, off, none⟩) d; rw [hk] at hcc; obtain ⟨hb1, c0, c1, c2, c3, c4, c5⟩ := hcc; obtain ⟨n00, n01, n02, n03, n04, n05⟩ := hC0.later hb1; obtain ⟨n10, n11, n12, n13, n14, n15⟩ := hC1.later hb1; unfold ndV; rw [hk]; clear hk; clear hKs hN; go_enter Tryz.func49, Tryz.ntmps49
     go_wp2_with (first | (go_at_call 34; refine (HBa.out _ hb1).mono ?_; rintro e w_1 ⟨he1, hq1⟩; rw [G1.out] at he1; subst he1; have hw1 := hb1.trans (hq1.mono hb1.size); obtain ⟨a100, a101, a102, a103, a104, a105⟩ := cl6 hq1 c0 c1 c2 c3 c4 c5; have hl1g0 := blt a100; obtain ⟨a110, a111, a112, a113, a114, a115⟩ := cl6 hq1 n00 n01 n02 n03 n04 n05; have hl1g1 := blt a110; obtain ⟨a120, a121, a122, a123, a124, a125⟩ := cl6 hq1 n10 n11 n12 n13 n14 n15; have hl1g2 := blt a120) | (go_at_call 96; refine (HK0x.out _ hw1).mono ?_; rintro e w_2 ⟨he2, hq2⟩; rw [G4.out] at he2; subst he2; have hw2 := hw1.trans (hq2.mono hw1.size); obtain ⟨a200, a201, a202, a203, a204, a205⟩ := cl6 hq2 a100 a101 a102 a103 a104 a105; have hl2g0 := blt a200; obtain ⟨a210, a211, a212, a213, a214, a215⟩ := cl6 hq2 a110 a111 a112 a113 a114 a115; have hl2g1 := blt a210; obtain ⟨a220, a221, a222, a223, a224, a225⟩ := cl6 hq2 a120 a121 a122 a123 a124 a125; have hl2g2 := blt a220))
     go_ret; exact ⟨by rw [HV.out]; rfl, hw2⟩
   ·exact lv76
  ·exact lv89
 | false =>
  exact lv96
theorem rs6 (hk : T.kind = 6) (hD : T.depth ≤ D + 1) (hW : T.weight ≤ 1000000) (hN : NodeAt w T A c K d) :
  Calls Tryz.prog 49 #[ndV T A c K d] w fun e w' => e = .returned (.bool (Sh.stmt.ev Nd.right T)) ∧ Below w.heap.size w w' := by
 have _ := hS
 have HBa := Lh (fun W (hb : Below w.heap.size w W) => by
  have := rBare_ok T A c K d W (hN.later hb); unfold ndV at this; rw [hk] at this
  exact this)
 have HOp := Lh (fun W (_ : Below w.heap.size w W) => rOperator_ok T.text W)
 have HEV0 := Lh (show Sh.stmt.ev Nd.right T = ((Tx.words signsL).ev T.text && noNumB T && rowB T.kids [Sh.ev Nd.right .target, Sh.ev Nd.right .expr]) by
  rw [st_at hk (tx := (.words signsL)) (fm := .row [.target, .expr]) rfl lq28 lq28 lq28]
  rfl)
 cases hc1 : noNumB T with
 | true =>
  have G1 := Lh hc1; clear hc1
  cases hc2 : (Tx.words signsL).ev T.text with
  | true =>
   have G2 := Lh hc2; clear hc2
   by_cases h3' : T.kids.length = 2
   ·have g3 : (T.kids.length == 2) = true := by simp [h3']
    have el : ((T.kids.length : Int) == 2) = true := by rw [h3']; rfl
    have elb : ((T.kids.length : Int) != 2) = false := by rw [h3']; rfl
    obtain ⟨t0, t1, hks⟩ := kids_2 (l := T.kids) lq29; have hg0 : T.kids[0]? = some t0 := by rw [hks]; rfl
    obtain ⟨b, off, A0, c0, K0, d0, hKe0, hC0, hN0⟩ := hN.kid hg0; have hd0 := wKM hD hW t0 (mog hg0); have hg1 : T.kids[1]? = some t1 := by rw [hks]; rfl
    obtain ⟨b1, off1, A1, c1, K1, d1, hKe1, hC1, hN1⟩ := hN.kid hg1; have hd1 := wKM hD hW t1 (mog hg1); rw [Nat.zero_mul, Nat.add_zero] at hC0; subst hKe0; injection hKe1 with e1
    injection e1 with e1 e2
    subst e1 e2; rw [show 1 * 6 = 6 from rfl] at hC1
    have HK0x := Lh (fun W (hb : Below w.heap.size w W) => by
     have := rTarget_ok D (rExpr_ok D) t0 A0 c0 K0 d0 W hd0.1 hd0.2 (hN0.later hb); unfold ndV at this
     exact this)
    have HK1x := Lh (fun W (hb : Below w.heap.size w W) => by
     have := rExpr_ok D t1 A1 c1 K1 d1 W hd1.1 hd1.2 (hN1.later hb); unfold ndV at this
     exact this)
    have j0a : (0 : Int) < (T.kids.length : Int) := by omega
    have j0b : 0 < T.kids.length := by omega
    have j1a : (1 : Int) < (T.kids.length : Int) := by omega
    have j1b : 1 < T.kids.length := by omega
    have HEVk := Lh (show Sh.stmt.ev Nd.right T = ((Tx.words signsL).ev T.text && noNumB T && ((Sh.target.ev Nd.right t0) && (Sh.expr.ev Nd.right t1))) by rw [HEV0.out, hks]; simp [rowB, Sh.ev, Bool.and_assoc]); clear hks hg0 hg1 hN0 hN1 hd0 hd1
    cases hc4 : Sh.target.ev Nd.right t0 with
    | true =>
     have G4 := Lh hc4; clear hc4
     cases hc5 : Sh.expr.ev Nd.right t1 with
     | true =>
      have G5 := Lh hc5; clear hc5; have HV := Lh (show Sh.stmt.ev Nd.right T = true by rw [HEVk.out]; simp [G1.out, G2.out, g3, G4.out, G5.out]); exact lv19
     | false =>
      have G5 := Lh hc5; clear hc5; have HV := Lh (show Sh.stmt.ev Nd.right T = false by rw [HEVk.out]; simp [G1.out, G2.out, g3, G4.out, G5.out]); exact lv19
    | false =>
     have G4 := Lh hc4; clear hc4; have HV := Lh (show Sh.stmt.ev Nd.right T = false by rw [HEVk.out]; simp [G1.out, G2.out, g3, G4.out]); clear h3'; obtain ⟨hm1, hm2, hrm, hw32, hk1, hk2, ⟨hk64a, hk64b⟩, ⟨ha64a, ha64b⟩, hts, hKs, HK⟩ := hN.hd; have hcc := bxn w T A c (some ⟨b, off, none⟩) d; rw [hk] at hcc; obtain ⟨hb1, c0, c1, c2, c3, c4, c5⟩ := hcc; obtain ⟨n00, n01, n02, n03, n04, n05⟩ := hC0.later hb1; obtain ⟨n10, n11, n12, n13, n14, n15⟩ := hC1.later hb1; unfold ndV; rw [hk]; clear hk; clear hKs hN; go_enter Tryz.func49, Tryz.ntmps49
     go_wp2_with (first | (go_at_call 34; refine (HBa.out _ hb1).mono ?_; rintro e w_1 ⟨he1, hq1⟩; rw [G1.out] at he1; subst he1; have hw1 := hb1.trans (hq1.mono hb1.size); obtain ⟨a100, a101, a102, a103, a104, a105⟩ := cl6 hq1 c0 c1 c2 c3 c4 c5; have hl1g0 := blt a100; obtain ⟨a110, a111, a112, a113, a114, a115⟩ := cl6 hq1 n00 n01 n02 n03 n04 n05; have hl1g1 := blt a110; obtain ⟨a120, a121, a122, a123, a124, a125⟩ := cl6 hq1 n10 n11 n12 n13 n14 n15; have hl1g2 := blt a120) | (go_at_call 89; refine (HOp.out _ hw1).mono ?_; rintro e w_2 ⟨he2, hq2⟩; rw [G2.out] at he2; subst he2; have hw2 := hw1.trans (hq2.mono hw1.size); obtain ⟨a200, a201, a202, a203, a204, a205⟩ := cl6 hq2 a100 a101 a102 a103 a104 a105; have hl2g0 := blt a200; obtain ⟨a210, a211, a212, a213, a214, a215⟩ := cl6 hq2 a110 a111 a112 a113 a114 a115; have hl2g1 := blt a210; obtain ⟨a220, a221, a222, a223, a224, a225⟩ := cl6 hq2 a120 a121 a122 a123 a124 a125; have hl2g2 := blt a220) | (go_at_call 90; refine (HK0x.out _ hw2).mono ?_; rintro e w_3 ⟨he3, hq3⟩; rw [G4.out] at he3; subst he3; have hw3 := hw2.trans (hq3.mono hw2.size); obtain ⟨a300, a301, a302, a303, a304, a305⟩ := cl6 hq3 a200 a201 a202 a203 a204 a205; have hl3g0 := blt a300; obtain ⟨a310, a311, a312, a313, a314, a315⟩ := cl6 hq3 a210 a211 a212 a213 a214 a215; have hl3g1 := blt a310; obtain ⟨a320, a321, a322, a323, a324, a325⟩ := cl6 hq3 a220 a221 a222 a223 a224 a225; have hl3g2 := blt a320))
     go_ret; exact ⟨by rw [HV.out]; rfl, hw3⟩
   ·have g3 : (T.kids.length == 2) = false := by simp [h3']
    have el : ((T.kids.length : Int) == 2) = false := bFo; have elb : ((T.kids.length : Int) != 2) = true := bne_iff_ne.2 lq29; have HV := Lh (show Sh.stmt.ev Nd.right T = false by rw [HEV0.out, rowB_len (by simpa using h3')]; simp); clear h3'; exact lv83
  | false =>
   have G2 := Lh hc2; clear hc2; have HV := Lh (show Sh.stmt.ev Nd.right T = false by rw [HEV0.out]; simp [G1.out, G2.out]); exact lv83
 | false =>
  exact lv96
theorem rs12 (hk : T.kind = 12) (hD : T.depth ≤ D + 1) (hW : T.weight ≤ 1000000) (hN : NodeAt w T A c K d) :
  Calls Tryz.prog 49 #[ndV T A c K d] w fun e w' => e = .returned (.bool (Sh.stmt.ev Nd.right T)) ∧ Below w.heap.size w w' := by
 have _ := hS
 exact lv1
theorem rs13 (hk : T.kind = 13) (hD : T.depth ≤ D + 1) (hW : T.weight ≤ 1000000) (hN : NodeAt w T A c K d) :
  Calls Tryz.prog 49 #[ndV T A c K d] w fun e w' => e = .returned (.bool (Sh.stmt.ev Nd.right T)) ∧ Below w.heap.size w w' := by
 have _ := hS
 exact lv4
theorem rs18 (hk : T.kind = 18) (hD : T.depth ≤ D + 1) (hW : T.weight ≤ 1000000) (hN : NodeAt w T A c K d) :
  Calls Tryz.prog 49 #[ndV T A c K d] w fun e w' => e = .returned (.bool (Sh.stmt.ev Nd.right T)) ∧ Below w.heap.size w w' := by
 have HBa := Lh (fun W (hb : Below w.heap.size w W) => by
  have := rBare_ok T A c K d W (hN.later hb); unfold ndV at this; rw [hk] at this
  exact this)
 have HNm := Lh (fun W (_ : Below w.heap.size w W) => rName_ok T.text W lq22)
 have HDf := Lh (fun W (hb : Below w.heap.size w W) => rDef_ok D hS T.kids T.kids.length K d W rfl (hN.parts.2.2.2.2.2.2.2.2.2.later hb) (wKM hD hW) hN.parts.2.2.2.2.1 hN.parts.2.2.2.2.2.1)
 have HEV0 := Lh (show Sh.stmt.ev Nd.right T = (nameB T.text.data.toList && noNumB T && defL T.kids) by
  rw [st_at hk (tx := .name) (fm := .dfn) rfl lq28 lq28 lq28]
  rfl)
 cases hc1 : noNumB T with
 | true =>
  have G1 := Lh hc1; clear hc1
  cases hc2 : nameB T.text.data.toList with
  | true =>
   have G2 := Lh hc2; clear hc2
   cases hc3 : defL T.kids with
   | true =>
    have G3 := Lh hc3; clear hc3; have HV := Lh (show Sh.stmt.ev Nd.right T = true by rw [HEV0.out]; simp [G1.out, G2.out, G3.out]); exact lv57
   | false =>
    have G3 := Lh hc3; clear hc3; have HV := Lh (show Sh.stmt.ev Nd.right T = false by rw [HEV0.out]; simp [G1.out, G2.out, G3.out]); exact lv57
  | false =>
   exact lv70
 | false =>
  exact lv96
end

section
variable (D : Nat) (hS : RStmtOk D) (T : Nd) (A : Option Addr) (c : Nat) (K : Option Addr) (d : Nat) (w : World)
include D hS T A c K d w
theorem rs16 (hk : T.kind = 16) (hD : T.depth ≤ D + 1) (hW : T.weight ≤ 1000000) (hN : NodeAt w T A c K d) :
  Calls Tryz.prog 49 #[ndV T A c K d] w fun e w' => e = .returned (.bool (Sh.stmt.ev Nd.right T)) ∧ Below w.heap.size w w' := by
 have HBa := Lh (fun W (hb : Below w.heap.size w W) => by
  have := rBare_ok T A c K d W (hN.later hb); unfold ndV at this; rw [hk] at this
  exact this)
 have HTE := Lh (text_empty T.text)
 have HEV0 := Lh (show Sh.stmt.ev Nd.right T = ((T.text.size == 0) && noNumB T && rowB T.kids [Sh.ev Nd.right .expr, Sh.ev Nd.right .block]) by
  rw [st_at hk (tx := .non) (fm := .row [.expr, .block]) rfl lq28 lq28 lq28]
  rfl)
 cases hc1 : noNumB T with
 | true =>
  have G1 := Lh hc1; clear hc1
  by_cases h2' : T.text.size = 0
  ·have g2 : (T.text.size == 0) = true := by simp [h2']
   have et : T.text.toList.isEmpty = true := by rw [HTE.out, g2]
   by_cases h3' : T.kids.length = 2
   ·have g3 : (T.kids.length == 2) = true := by simp [h3']
    have el : ((T.kids.length : Int) == 2) = true := by rw [h3']; rfl
    have elb : ((T.kids.length : Int) != 2) = false := by rw [h3']; rfl
    obtain ⟨t0, t1, hks⟩ := kids_2 (l := T.kids) lq29; have hg0 : T.kids[0]? = some t0 := by rw [hks]; rfl
    obtain ⟨b, off, A0, c0, K0, d0, hKe0, hC0, hN0⟩ := hN.kid hg0; have hd0 := wKM hD hW t0 (mog hg0); have hg1 : T.kids[1]? = some t1 := by rw [hks]; rfl
    obtain ⟨b1, off1, A1, c1, K1, d1, hKe1, hC1, hN1⟩ := hN.kid hg1; have hd1 := wKM hD hW t1 (mog hg1); rw [Nat.zero_mul, Nat.add_zero] at hC0; subst hKe0; injection hKe1 with e1
    injection e1 with e1 e2
    subst e1 e2; rw [show 1 * 6 = 6 from rfl] at hC1
    have HK0x := Lh (fun W (hb : Below w.heap.size w W) => by
     have := rExpr_ok D t0 A0 c0 K0 d0 W hd0.1 hd0.2 (hN0.later hb); unfold ndV at this
     exact this)
    have HK1x := Lh (fun W (hb : Below w.heap.size w W) => by
     have := rBlock_ok D hS t1 A1 c1 K1 d1 W lq29 hd1.2 (hN1.later hb); unfold ndV at this
     exact this)
    have j0a : (0 : Int) < (T.kids.length : Int) := by omega
    have j0b : 0 < T.kids.length := by omega
    have j1a : (1 : Int) < (T.kids.length : Int) := by omega
    have j1b : 1 < T.kids.length := by omega
    have HEVk := Lh (show Sh.stmt.ev Nd.right T = ((T.text.size == 0) && noNumB T && ((Sh.expr.ev Nd.right t0) && (Sh.block.ev Nd.right t1))) by rw [HEV0.out, hks]; simp [rowB, Sh.ev, Bool.and_assoc]); clear hks hg0 hg1 hN0 hN1 hd0 hd1
    cases hc4 : Sh.expr.ev Nd.right t0 with
    | true =>
     have G4 := Lh hc4; clear hc4
     cases hc5 : Sh.block.ev Nd.right t1 with
     | true =>
      have G5 := Lh hc5; clear hc5; have HV := Lh (show Sh.stmt.ev Nd.right T = true by rw [HEVk.out]; simp [G1.out, g2, g3, G4.out, G5.out]); exact lv26
     | false =>
      have G5 := Lh hc5; clear hc5; have HV := Lh (show Sh.stmt.ev Nd.right T = false by rw [HEVk.out]; simp [G1.out, g2, g3, G4.out, G5.out]); exact lv26
    | false =>
     have G4 := Lh hc4; clear hc4; have HV := Lh (show Sh.stmt.ev Nd.right T = false by rw [HEVk.out]; simp [G1.out, g2, g3, G4.out]); clear h2' h3'; obtain ⟨hm1, hm2, hrm, hw32, hk1, hk2, ⟨hk64a, hk64b⟩, ⟨ha64a, ha64b⟩, hts, hKs, HK⟩ := hN.hd; have hcc := bxn w T A c (some ⟨b, off, none⟩) d; rw [hk] at hcc; obtain ⟨hb1, c0, c1, c2, c3, c4, c5⟩ := hcc; obtain ⟨n00, n01, n02, n03, n04, n05⟩ := hC0.later hb1; obtain ⟨n10, n11, n12, n13, n14, n15⟩ := hC1.later hb1; unfold ndV; rw [hk]; clear hk; clear hKs hN; go_enter Tryz.func49, Tryz.ntmps49
     go_wp2_with (first | (go_at_call 34; refine (HBa.out _ hb1).mono ?_; rintro e w_1 ⟨he1, hq1⟩; rw [G1.out] at he1; subst he1; have hw1 := hb1.trans (hq1.mono hb1.size); obtain ⟨a100, a101, a102, a103, a104, a105⟩ := cl6 hq1 c0 c1 c2 c3 c4 c5; have hl1g0 := blt a100; obtain ⟨a110, a111, a112, a113, a114, a115⟩ := cl6 hq1 n00 n01 n02 n03 n04 n05; have hl1g1 := blt a110; obtain ⟨a120, a121, a122, a123, a124, a125⟩ := cl6 hq1 n10 n11 n12 n13 n14 n15; have hl1g2 := blt a120) | (go_at_call 91; refine (HK0x.out _ hw1).mono ?_; rintro e w_2 ⟨he2, hq2⟩; rw [G4.out] at he2; subst he2; have hw2 := hw1.trans (hq2.mono hw1.size); obtain ⟨a200, a201, a202, a203, a204, a205⟩ := cl6 hq2 a100 a101 a102 a103 a104 a105; have hl2g0 := blt a200; obtain ⟨a210, a211, a212, a213, a214, a215⟩ := cl6 hq2 a110 a111 a112 a113 a114 a115; have hl2g1 := blt a210; obtain ⟨a220, a221, a222, a223, a224, a225⟩ := cl6 hq2 a120 a121 a122 a123 a124 a125; have hl2g2 := blt a220))
     go_ret; exact ⟨by rw [HV.out]; rfl, hw2⟩
   ·exact lv76
  ·exact lv89
 | false =>
  exact lv96
theorem rs14 (hk : T.kind = 14) (hD : T.depth ≤ D + 1) (hW : T.weight ≤ 1000000) (hN : NodeAt w T A c K d) :
  Calls Tryz.prog 49 #[ndV T A c K d] w fun e w' => e = .returned (.bool (Sh.stmt.ev Nd.right T)) ∧ Below w.heap.size w w' := by
 have _ := hS
 exact lv4
theorem rs21 (hk : T.kind = 21) (hD : T.depth ≤ D + 1) (hW : T.weight ≤ 1000000) (hN : NodeAt w T A c K d) :
  Calls Tryz.prog 49 #[ndV T A c K d] w fun e w' => e = .returned (.bool (Sh.stmt.ev Nd.right T)) ∧ Below w.heap.size w w' := by
 have HBa := Lh (fun W (hb : Below w.heap.size w W) => by
  have := rBare_ok T A c K d W (hN.later hb); unfold ndV at this; rw [hk] at this
  exact this)
 have HTE := Lh (text_empty T.text)
 have HTr := Lh (fun W (hb : Below w.heap.size w W) => rTry_ok D hS T.kids T.kids.length K d W rfl (hN.parts.2.2.2.2.2.2.2.2.2.later hb) (wKM hD hW) hN.parts.2.2.2.2.1 hN.parts.2.2.2.2.2.1)
 have HEV0 := Lh (show Sh.stmt.ev Nd.right T = ((T.text.size == 0) && noNumB T && tryL T.kids) by
  rw [st_at hk (tx := .non) (fm := .tri) rfl lq28 lq28 lq28]
  rfl)
 cases hc1 : noNumB T with
 | true =>
  have G1 := Lh hc1; clear hc1
  by_cases h2' : T.text.size = 0
  ·have g2 : (T.text.size == 0) = true := by simp [h2']
   have et : T.text.toList.isEmpty = true := by rw [HTE.out, g2]
   cases hc3 : tryL T.kids with
   | true =>
    have G3 := Lh hc3; clear hc3; have HV := Lh (show Sh.stmt.ev Nd.right T = true by rw [HEV0.out]; simp [G1.out, g2, G3.out]); exact lv79
   | false =>
    have G3 := Lh hc3; clear hc3; have HV := Lh (show Sh.stmt.ev Nd.right T = false by rw [HEV0.out]; simp [G1.out, g2, G3.out]); exact lv79
  ·exact lv89
 | false =>
  exact lv96
theorem rs_other (hD : T.depth ≤ D + 1) (hW : T.weight ≤ 1000000) (hN : NodeAt w T A c K d) (hEV : Sh.stmt.ev Nd.right T = false) (z3 : (T.kind == 3) = false) (z4 : (T.kind == 4) = false) (z5 : (T.kind == 5) = false) (z6 : (T.kind == 6) = false) (z7 : (T.kind == 7) = false) (z8 : (T.kind == 8) = false) (z9 : (T.kind == 9) = false) (z10 : (T.kind == 10) = false) (z11 : (T.kind == 11) = false) (z12 : (T.kind == 12) = false) (z13 : (T.kind == 13) = false) (z14 : (T.kind == 14) = false) (z15 : (T.kind == 15) = false) (z16 : (T.kind == 16) = false) (z17 : (T.kind == 17) = false) (z18 : (T.kind == 18) = false) (z20 : (T.kind == 20) = false) (z21 : (T.kind == 21) = false) :
  Calls Tryz.prog 49 #[ndV T A c K d] w fun e w' => e = .returned (.bool (Sh.stmt.ev Nd.right T)) ∧ Below w.heap.size w w' := by
 have _ := hS
 have HBa := Lh (fun W (hb : Below w.heap.size w W) => by
  have := rBare_ok T A c K d W (hN.later hb); unfold ndV at this
  exact this)
 have HTE := Lh (text_empty T.text)
 have HEV := Lh hEV
 clear hS hD hW hEV
 cases hc1 : noNumB T with
 | true =>
  have G1 := Lh hc1; clear hc1
  by_cases h2' : T.text.size = 0
  ·have g2 : (T.text.size == 0) = true := by simp [h2']
   have et : T.text.toList.isEmpty = true := by rw [HTE.out, g2]
   exact lv101
  ·have g2 : (T.text.size == 0) = false := by simp [h2']
   have et : T.text.toList.isEmpty = false := by rw [HTE.out, g2]
   exact lv101
 | false =>
  have G1 := Lh hc1; clear hc1; have HV := Lh (show Sh.stmt.ev Nd.right T = false by exact HEV.out); obtain ⟨hm1, hm2, hrm, hw32, hk1, hk2, ⟨hk64a, hk64b⟩, ⟨ha64a, ha64b⟩, hts, hKs, HK⟩ := hN.hd; obtain ⟨hb1, c0, c1, c2, c3, c4, c5⟩ := bxn w T A c K d; unfold ndV; exact lv132
end

end
end Go.Proofs.YtjefhdlncikhmaaGreatDoor
