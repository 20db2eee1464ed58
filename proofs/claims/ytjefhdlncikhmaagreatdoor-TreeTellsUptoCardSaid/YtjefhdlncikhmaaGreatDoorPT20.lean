/- Joined by a program: Q6, Q7p. -/
import Derived.Test.YtjefhdlncikhmaaGreatDoorPT17
namespace Go.Proofs.YtjefhdlncikhmaaGreatDoor
set_option linter.unusedVariables false
set_option linter.unusedSimpArgs false
set_option maxRecDepth 1000000
set_option maxHeartbeats 16000000
section
open Go.RowKit
open List (length_append length_cons length_nil length_singleton)
theorem two_of {l : List Nd} (h : l.length = 2) : ∃ q b, l = [q, b] := by
 match l, h with
 | [q, b], _ => exact ⟨q, b, rfl⟩
def tryL (l : List Nd) : Bool := decide (2 ≤ l.length) && (l.take 1).all (Sh.block.ev Nd.right) && catchB Nd.right (l.drop 1)
theorem exc_eq {x : Nd} (hk : x.kind = 22) {q b : Nd} (h : x.kids = [q, b]) : x.right = (((x.text.size == 0) || nameB x.text.data.toList) && noNumB x && ((Sh.none.ev Nd.right q || Sh.expr.ev Nd.right q) && Sh.block.ev Nd.right b && ((x.text.size == 0) || nameB x.text.data.toList && !(q.kind == 0)))) := by
 rw [right_at hk (tx := .exc) (fm := .exc) rfl lq28]
 simp only [Fm.ev, Tx.ev, h, rowB, Sh.ev, Bool.and_true, List.take_succ_cons, List.take_zero, List.any_cons, List.any_nil, Bool.or_false]
theorem catch_step {l : List Nd} {k : Nat} {x : Nd} (h : l[k]? = some x) :
  ((¬ x.kind = 22 ∨ noNumB x = false ∨ ¬ x.kids.length = 2) → catchB Nd.right (l.drop k) = false) ∧
  (∀ q b, x.kids = [q, b] → (Sh.block.ev Nd.right b = false ∨ ((x.text.size == 0) = false ∧ nameB x.text.data.toList = false)) → catchB Nd.right (l.drop k) = false) ∧
  (∀ q b, x.kids = [q, b] → Sh.none.ev Nd.right q = true → ((x.text.size == 0) = false ∨ k + 1 < l.length) → catchB Nd.right (l.drop k) = false) ∧
  (∀ q b, x.kids = [q, b] → x.kind = 22 → noNumB x = true → Sh.block.ev Nd.right b = true → (x.text.size == 0) = true → Sh.none.ev Nd.right q = true → ¬ k + 1 < l.length → catchB Nd.right (l.drop k) = catchB Nd.right (l.drop (k + 1))) ∧
  (∀ q b, x.kids = [q, b] → x.kind = 22 → noNumB x = true → Sh.block.ev Nd.right b = true → ((x.text.size == 0) = true ∨ nameB x.text.data.toList = true) → Sh.none.ev Nd.right q = false → catchB Nd.right (l.drop k) = (Sh.expr.ev Nd.right q && catchB Nd.right (l.drop (k + 1)))) := by
 have hcd := catch_drop h
 rw [isEmpty_drop] at hcd
 refine ⟨?_, ?_, ?_, ?_, ?_⟩
 ·intro hh; rw [hcd]
  by_cases h22 : x.kind = 22
  ·have hr : x.right = false := by
    cases hr : x.right with
    | false => rfl
    | true =>
     have hl := except_kids h22 hr
     rcases hh with hh | hh | hh
     ·exact absurd h22 hh
     ·rw [right_at h22 (tx := .exc) (fm := .exc) rfl lq28, hh] at hr; simp at hr
     ·exact absurd hl hh
   rw [hr]; simp
  ·simp [h22]
 ·intro q b hk hh; rw [hcd]
  by_cases h22 : x.kind = 22
  ·rw [exc_eq h22 hk]
   rcases hh with hh | ⟨h1, h2⟩
   ·rw [hh]; simp
   ·rw [h1, h2]; simp
  ·simp [h22]
 ·intro q b hk hn hh; rw [hcd, hk]
  by_cases h22 : x.kind = 22
  ·rw [exc_eq h22 hk]; have hq := kind_none hn
   rcases hh with h1 | h1
   ·rw [h1]; simp [hq]
   ·rw [dFo]; simp [hq]
  ·simp [h22]
 ·intro q b hk h22 h1 h2 h3 h4 h5; rw [hcd, exc_eq h22 hk, hk, h1, h2, h3, h4, dTo]
  simp [h22]
 ·intro q b hk h22 h1 h2 h3 h4; rw [hcd, exc_eq h22 hk, hk, h1, h2, h4]
  cases he : Sh.expr.ev Nd.right q with
  | false => simp
  | true =>
   have hq := kind_expr he
   rcases h3 with h3 | h3 <;> simp [h22, h3, hq]
theorem rTry_ok (D : Nat) (hS : RStmtOk D) (l : List Nd) (n : Nat) (K : Option Addr) (d : Nat) (w : World) (hn : l.length = n) (hl : KidsAt w l K 0) (hWi : WithinM D l) (hnd : n ≤ d) (hd : d ≤ maxLen) :
  Calls Tryz.prog 98 #[.slice K n d] w fun e w' => e = .returned (.bool (tryL l)) ∧ Below w.heap.size w w' := by
 have hd' := hd
 unfold maxLen at hd
 by_cases h0 : n < 2
 ·have e1 : decide ((n : Int) < 2) = true := dTo; have e2 : decide (n < 2) = true := dTr h0; have HV := Lh (show tryL l = false by rw [tryL, hn, dFo]; rfl); clear hS hl hWi hn h0; go_enter Tryz.func98, Tryz.ntmps98; go_wp2_with fail; go_ret; exact ⟨by rw [HV.out]; rfl, Below.refl _ _⟩
 ·have e1 : decide ((n : Int) < 2) = false := dFo; have e2 : decide (n < 2) = false := dFa h0; obtain ⟨t, ht⟩ : ∃ t, l[0]? = some t := ⟨_, gEo⟩; obtain ⟨b, off, A', c', K', d', hKe, hC, hNt⟩ := hl.kid ht; rw [Nat.zero_add, Nat.zero_mul, Nat.add_zero] at hC; subst hKe; obtain ⟨n0, n1, n2, n3, n4, n5⟩ := hC; obtain ⟨hd1, hw1⟩ := hWi t (mog ht); have hbm : b < w.heap.size := blt n0; have hX := rBlock_ok D hS t A' c' K' d' w lq29 hw1 hNt; unfold ndV at hX; have HX := Lh hX; have HV0 := Lh (show tryL l = (Sh.block.ev Nd.right t && catchB Nd.right (l.drop 1)) by rw [tryL, take_one ht, hn, dTo]; simp)
  have i1 : (0 : Int) < (n : Int) := by omega
  have i2 : 0 < n := by omega
  have HL := Lh hl; have HNn := Lh hn; have HW := Lh hWi; have HS := Lh hS; clear hS hl hWi hn ht hNt hd1 hw1 hX
  generalize Sh.block.ev Nd.right t = x at *
  cases x
  ·go_enter Tryz.func98, Tryz.ntmps98; go_wp2_with (go_at_call 95; refine HX.out.mono ?_; rintro e w3 ⟨rfl, hb3⟩); go_ret; exact ⟨by rw [HV0.out]; rfl, hb3⟩
  ·have HV1 := Lh (show tryL l = catchB Nd.right (l.drop 1) from HV0.out); clear HV0; go_enter Tryz.func98, Tryz.ntmps98; go_wp2_with (go_at_call 95; refine HX.out.mono ?_; rintro e w3 ⟨rfl, hb3⟩)
   go_loopw [3] (fun iv wr => ∃ k : Nat, iv = .int .i64 k ∧ 1 ≤ k ∧ k ≤ n ∧ Hid (catchB Nd.right (l.drop 1) = catchB Nd.right (l.drop k)) ∧ Below w.heap.size w wr) (fun iv _ => n - (intOf iv).toNat)
   case atStart => exact ⟨1, rfl, by omega, by omega, Lh rfl, hb3⟩
   case round =>
    obtain ⟨k, rfl, hk1, hk, hR, hbr⟩ := hrel
    by_cases hkl : k < n
    ·have o1 : decide ((k : Int) < (n : Int)) = true := dTo; have o2 : decide (k < n) = true := dTr hkl; obtain ⟨p, hp⟩ : ∃ p, l[k]? = some p := ⟨_, List.getElem?_eq_getElem (by rw [HNn.out]; omega)⟩; obtain ⟨b', off', A2, c2, K2, d2, hKe, hC, hNt⟩ := HL.out.kid hp; rw [Nat.zero_add] at hC; injection hKe with hKe
     injection hKe with q1 q2
     subst q1 q2; obtain ⟨m0, m1, m2, m3, m4, m5⟩ := hC.later hbr; obtain ⟨hd1, hw1⟩ := HW.out p (mog hp); have hbt := (Below.refl wr.heap.size wr).alloc (Nat.le_refl _) (.cells #[.int .i64 p.kind, .int .i64 p.pos, .string p.text, .bool p.neg, .slice A2 p.mag.length c2, .slice K2 p.kids.length d2] 27); have hbq := hbr.trans (hbt.mono hbr.size); obtain ⟨z0, z1, z2, z3, z4, z5⟩ := (cellsN_new wr p A2 c2 K2 d2 27).box; have HNm := Lh (fun W (_ : Below w.heap.size w W) => rName_ok p.text W (by have := p.weight_eq; omega))
     have HBa := Lh (fun W (hb : Below w.heap.size w W) => by
      have := rBare_ok p A2 c2 K2 d2 W (hNt.later hb); unfold ndV at this
      exact this)
     have HTE := Lh (text_empty p.text); obtain ⟨ps1, ps2, ps3, ps4, ps5⟩ := catch_step hp; rw [HNn.out] at ps3 ps4; have PS1 := Lh ps1; have PS2 := Lh ps2; have PS3 := Lh ps3; have PS4 := Lh ps4; have PS5 := Lh ps5; have HNK := Lh hNt; clear ps1 ps2 ps3 ps4 ps5 hp hC hNt
     by_cases h1' : p.kind = 22
     ·have g1 : (p.kind == 22) = true := by simp [h1']
      have ek : (p.kind == 22) = true := by simpa using h1'
      have ek' : (p.kind != 22) = false := by simp [h1']
      cases hc2 : noNumB p with
      | true =>
       have G2 := Lh hc2; clear hc2
       by_cases h3' : p.kids.length = 2
       ·have g3 : (p.kids.length == 2) = true := by simp [h3']
        have el : ((p.kids.length : Int) == 2) = true := by rw [h3']; rfl
        have elb : ((p.kids.length : Int) != 2) = false := by rw [h3']; rfl
        obtain ⟨q, v, hqb⟩ := two_of (l := p.kids) lq29; have hq0 : p.kids[0]? = some q := by rw [hqb]; rfl
        obtain ⟨bkq, offkq, Akq, ckq, Kkq, dkq, hKkq, hCkq, hNkq⟩ := HNK.out.kid hq0; have hdq : q.depth ≤ D ∧ q.weight ≤ 1000000 := by have h1 := Nd.depth_kid (T := p) (t := q) (by rw [hqb]; simp); have h2 := Nd.weight_kid (T := p) (t := q) (by rw [hqb]; simp); omega
        have hv0 : p.kids[1]? = some v := by rw [hqb]; rfl
        obtain ⟨bkv, offkv, Akv, ckv, Kkv, dkv, hKkv, hCkv, hNkv⟩ := HNK.out.kid hv0; have hdv : v.depth ≤ D ∧ v.weight ≤ 1000000 := by have h1 := Nd.depth_kid (T := p) (t := v) (by rw [hqb]; simp); have h2 := Nd.weight_kid (T := p) (t := v) (by rw [hqb]; simp); omega
        rw [Nat.zero_mul, Nat.add_zero] at hCkq; rw [Nat.one_mul] at hCkv; subst hKkq; injection hKkv with e1
        injection e1 with e1 e2
        subst e1 e2; obtain ⟨k0, k1, k2, k3, k4, k5⟩ := hCkq.later hbq; obtain ⟨v0, v1, v2, v3, v4, v5⟩ := hCkv.later hbq
        have HNo := Lh (fun W (hb : Below w.heap.size w W) => by
         have := rNone_ok q Akq ckq Kkq dkq W (hNkq.later hb); unfold ndV at this
         exact this)
        have HEx := Lh (fun W (hb : Below w.heap.size w W) => by
         have := rExpr_ok D q Akq ckq Kkq dkq W hdq.1 hdq.2 (hNkq.later hb); unfold ndV at this
         exact this)
        have HBl := Lh (fun W (hb : Below w.heap.size w W) => by
         have := rBlock_ok D HS.out v Akv ckv Kkv dkv W lq29 hdv.2 (hNkv.later hb); unfold ndV at this
         exact this)
        have HQ := Lh hqb; have j1 : (1 : Int) < (p.kids.length : Int) := by omega
        have j2 : 1 < p.kids.length := by omega
        have j3 : (0 : Int) < (p.kids.length : Int) := by omega
        have j4 : 0 < p.kids.length := by omega
        clear hqb hq0 hv0 hCkq hNkq hdq hCkv hNkv hdv
        cases hc4 : Sh.block.ev Nd.right v with
        | true =>
         have G4 := Lh hc4; clear hc4
         by_cases h5' : p.text.size = 0
         ·have g5 : (p.text.size == 0) = true := by simp [h5']
          have et : p.text.toList.isEmpty = true := by rw [HTE.out, g5]
          cases hc6 : Sh.none.ev Nd.right q with
          | true =>
           have G6 := Lh hc6; clear hc6
           by_cases h7' : k + 1 < n
           ·have g7 : decide (k + 1 < n) = true := by simp [h7']
            have ez : decide ((k : Int) + 1 < (n : Int)) = true := dTo; have HF := Lh (show tryL l = false by rw [HV1.out, hR.out, PS3.out q v HQ.out G6.out (.inr h7')]); clear h1' h3' h5' h7'
            go_wp2_with (first | (go_at_call 34; refine (HBa.out _ hbq).mono ?_; rintro e w_1 ⟨he1, hq1⟩; rw [G2.out] at he1; subst he1; have hw1 := hbq.trans (hq1.mono hbq.size); obtain ⟨a100, a101, a102, a103, a104, a105⟩ := cl6 hq1 z0 z1 z2 z3 z4 z5; have hl1g0 := blt a100; obtain ⟨a110, a111, a112, a113, a114, a115⟩ := cl6 hq1 k0 k1 k2 k3 k4 k5; have hl1g1 := blt a110; obtain ⟨a120, a121, a122, a123, a124, a125⟩ := cl6 hq1 v0 v1 v2 v3 v4 v5; have hl1g2 := blt a120) | (go_at_call 95; refine (HBl.out _ hw1).mono ?_; rintro e w_2 ⟨he2, hq2⟩; rw [G4.out] at he2; subst he2; have hw2 := hw1.trans (hq2.mono hw1.size); obtain ⟨a200, a201, a202, a203, a204, a205⟩ := cl6 hq2 a100 a101 a102 a103 a104 a105; have hl2g0 := blt a200; obtain ⟨a210, a211, a212, a213, a214, a215⟩ := cl6 hq2 a110 a111 a112 a113 a114 a115; have hl2g1 := blt a210; obtain ⟨a220, a221, a222, a223, a224, a225⟩ := cl6 hq2 a120 a121 a122 a123 a124 a125; have hl2g2 := blt a220) | (go_at_call 94; refine (HNo.out _ hw2).mono ?_; rintro e w_3 ⟨he3, hq3⟩; rw [G6.out] at he3; subst he3; have hw3 := hw2.trans (hq3.mono hw2.size); obtain ⟨a300, a301, a302, a303, a304, a305⟩ := cl6 hq3 a200 a201 a202 a203 a204 a205; have hl3g0 := blt a300; obtain ⟨a310, a311, a312, a313, a314, a315⟩ := cl6 hq3 a210 a211 a212 a213 a214 a215; have hl3g1 := blt a310; obtain ⟨a320, a321, a322, a323, a324, a325⟩ := cl6 hq3 a220 a221 a222 a223 a224 a225; have hl3g2 := blt a320))
            go_ret; exact ⟨by rw [HF.out]; rfl, hw3⟩
           ·have g7 : decide (k + 1 < n) = false := by simp [h7']
            have ez : decide ((k : Int) + 1 < (n : Int)) = false := dFo; have HZ := Lh (show catchB Nd.right (l.drop 1) = catchB Nd.right (l.drop (k + 1)) from hR.out.trans (PS4.out q v HQ.out h1' G2.out G4.out g5 G6.out h7')); clear h1' h3' h5' h7'
            go_wp2_with (first | (go_at_call 34; refine (HBa.out _ hbq).mono ?_; rintro e w_1 ⟨he1, hq1⟩; rw [G2.out] at he1; subst he1; have hw1 := hbq.trans (hq1.mono hbq.size); obtain ⟨a100, a101, a102, a103, a104, a105⟩ := cl6 hq1 z0 z1 z2 z3 z4 z5; have hl1g0 := blt a100; obtain ⟨a110, a111, a112, a113, a114, a115⟩ := cl6 hq1 k0 k1 k2 k3 k4 k5; have hl1g1 := blt a110; obtain ⟨a120, a121, a122, a123, a124, a125⟩ := cl6 hq1 v0 v1 v2 v3 v4 v5; have hl1g2 := blt a120) | (go_at_call 95; refine (HBl.out _ hw1).mono ?_; rintro e w_2 ⟨he2, hq2⟩; rw [G4.out] at he2; subst he2; have hw2 := hw1.trans (hq2.mono hw1.size); obtain ⟨a200, a201, a202, a203, a204, a205⟩ := cl6 hq2 a100 a101 a102 a103 a104 a105; have hl2g0 := blt a200; obtain ⟨a210, a211, a212, a213, a214, a215⟩ := cl6 hq2 a110 a111 a112 a113 a114 a115; have hl2g1 := blt a210; obtain ⟨a220, a221, a222, a223, a224, a225⟩ := cl6 hq2 a120 a121 a122 a123 a124 a125; have hl2g2 := blt a220) | (go_at_call 94; refine (HNo.out _ hw2).mono ?_; rintro e w_3 ⟨he3, hq3⟩; rw [G6.out] at he3; subst he3; have hw3 := hw2.trans (hq3.mono hw2.size); obtain ⟨a300, a301, a302, a303, a304, a305⟩ := cl6 hq3 a200 a201 a202 a203 a204 a205; have hl3g0 := blt a300; obtain ⟨a310, a311, a312, a313, a314, a315⟩ := cl6 hq3 a210 a211 a212 a213 a214 a215; have hl3g1 := blt a310; obtain ⟨a320, a321, a322, a323, a324, a325⟩ := cl6 hq3 a220 a221 a222 a223 a224 a225; have hl3g2 := blt a320))
            go_roundw
            case rel => exact ⟨k + 1, by go_num, by omega, by omega, HZ, hw3⟩
            case measure => simp [intOf]; omega
          | false =>
           have G6 := Lh hc6; clear hc6
           cases hc8 : Sh.expr.ev Nd.right q with
           | true =>
            have G8 := Lh hc8; clear hc8; have HZ := Lh (show catchB Nd.right (l.drop 1) = catchB Nd.right (l.drop (k + 1)) from hR.out.trans (by rw [PS5.out q v HQ.out h1' G2.out G4.out (.inl g5) G6.out, G8.out]; rfl)); clear h1' h3' h5'
            go_wp2_with (first | (go_at_call 34; refine (HBa.out _ hbq).mono ?_; rintro e w_1 ⟨he1, hq1⟩; rw [G2.out] at he1; subst he1; have hw1 := hbq.trans (hq1.mono hbq.size); obtain ⟨a100, a101, a102, a103, a104, a105⟩ := cl6 hq1 z0 z1 z2 z3 z4 z5; have hl1g0 := blt a100; obtain ⟨a110, a111, a112, a113, a114, a115⟩ := cl6 hq1 k0 k1 k2 k3 k4 k5; have hl1g1 := blt a110; obtain ⟨a120, a121, a122, a123, a124, a125⟩ := cl6 hq1 v0 v1 v2 v3 v4 v5; have hl1g2 := blt a120) | (go_at_call 95; refine (HBl.out _ hw1).mono ?_; rintro e w_2 ⟨he2, hq2⟩; rw [G4.out] at he2; subst he2; have hw2 := hw1.trans (hq2.mono hw1.size); obtain ⟨a200, a201, a202, a203, a204, a205⟩ := cl6 hq2 a100 a101 a102 a103 a104 a105; have hl2g0 := blt a200; obtain ⟨a210, a211, a212, a213, a214, a215⟩ := cl6 hq2 a110 a111 a112 a113 a114 a115; have hl2g1 := blt a210; obtain ⟨a220, a221, a222, a223, a224, a225⟩ := cl6 hq2 a120 a121 a122 a123 a124 a125; have hl2g2 := blt a220) | (go_at_call 94; refine (HNo.out _ hw2).mono ?_; rintro e w_3 ⟨he3, hq3⟩; rw [G6.out] at he3; subst he3; have hw3 := hw2.trans (hq3.mono hw2.size); obtain ⟨a300, a301, a302, a303, a304, a305⟩ := cl6 hq3 a200 a201 a202 a203 a204 a205; have hl3g0 := blt a300; obtain ⟨a310, a311, a312, a313, a314, a315⟩ := cl6 hq3 a210 a211 a212 a213 a214 a215; have hl3g1 := blt a310; obtain ⟨a320, a321, a322, a323, a324, a325⟩ := cl6 hq3 a220 a221 a222 a223 a224 a225; have hl3g2 := blt a320) | (go_at_call 91; refine (HEx.out _ hw3).mono ?_; rintro e w_4 ⟨he4, hq4⟩; rw [G8.out] at he4; subst he4; have hw4 := hw3.trans (hq4.mono hw3.size); obtain ⟨a400, a401, a402, a403, a404, a405⟩ := cl6 hq4 a300 a301 a302 a303 a304 a305; have hl4g0 := blt a400; obtain ⟨a410, a411, a412, a413, a414, a415⟩ := cl6 hq4 a310 a311 a312 a313 a314 a315; have hl4g1 := blt a410; obtain ⟨a420, a421, a422, a423, a424, a425⟩ := cl6 hq4 a320 a321 a322 a323 a324 a325; have hl4g2 := blt a420))
            go_roundw
            case rel => exact ⟨k + 1, by go_num, by omega, by omega, HZ, hw4⟩
            case measure => simp [intOf]; omega
           | false =>
            have G8 := Lh hc8; clear hc8; have HF := Lh (show tryL l = false by rw [HV1.out, hR.out, PS5.out q v HQ.out h1' G2.out G4.out (.inl g5) G6.out, G8.out, Bool.false_and]); clear h1' h3' h5'
            go_wp2_with (first | (go_at_call 34; refine (HBa.out _ hbq).mono ?_; rintro e w_1 ⟨he1, hq1⟩; rw [G2.out] at he1; subst he1; have hw1 := hbq.trans (hq1.mono hbq.size); obtain ⟨a100, a101, a102, a103, a104, a105⟩ := cl6 hq1 z0 z1 z2 z3 z4 z5; have hl1g0 := blt a100; obtain ⟨a110, a111, a112, a113, a114, a115⟩ := cl6 hq1 k0 k1 k2 k3 k4 k5; have hl1g1 := blt a110; obtain ⟨a120, a121, a122, a123, a124, a125⟩ := cl6 hq1 v0 v1 v2 v3 v4 v5; have hl1g2 := blt a120) | (go_at_call 95; refine (HBl.out _ hw1).mono ?_; rintro e w_2 ⟨he2, hq2⟩; rw [G4.out] at he2; subst he2; have hw2 := hw1.trans (hq2.mono hw1.size); obtain ⟨a200, a201, a202, a203, a204, a205⟩ := cl6 hq2 a100 a101 a102 a103 a104 a105; have hl2g0 := blt a200; obtain ⟨a210, a211, a212, a213, a214, a215⟩ := cl6 hq2 a110 a111 a112 a113 a114 a115; have hl2g1 := blt a210; obtain ⟨a220, a221, a222, a223, a224, a225⟩ := cl6 hq2 a120 a121 a122 a123 a124 a125; have hl2g2 := blt a220) | (go_at_call 94; refine (HNo.out _ hw2).mono ?_; rintro e w_3 ⟨he3, hq3⟩; rw [G6.out] at he3; subst he3; have hw3 := hw2.trans (hq3.mono hw2.size); obtain ⟨a300, a301, a302, a303, a304, a305⟩ := cl6 hq3 a200 a201 a202 a203 a204 a205; have hl3g0 := blt a300; obtain ⟨a310, a311, a312, a313, a314, a315⟩ := cl6 hq3 a210 a211 a212 a213 a214 a215; have hl3g1 := blt a310; obtain ⟨a320, a321, a322, a323, a324, a325⟩ := cl6 hq3 a220 a221 a222 a223 a224 a225; have hl3g2 := blt a320) | (go_at_call 91; refine (HEx.out _ hw3).mono ?_; rintro e w_4 ⟨he4, hq4⟩; rw [G8.out] at he4; subst he4; have hw4 := hw3.trans (hq4.mono hw3.size); obtain ⟨a400, a401, a402, a403, a404, a405⟩ := cl6 hq4 a300 a301 a302 a303 a304 a305; have hl4g0 := blt a400; obtain ⟨a410, a411, a412, a413, a414, a415⟩ := cl6 hq4 a310 a311 a312 a313 a314 a315; have hl4g1 := blt a410; obtain ⟨a420, a421, a422, a423, a424, a425⟩ := cl6 hq4 a320 a321 a322 a323 a324 a325; have hl4g2 := blt a420))
            go_ret; exact ⟨by rw [HF.out]; rfl, hw4⟩
         ·have g5 : (p.text.size == 0) = false := by simp [h5']
          have et : p.text.toList.isEmpty = false := by rw [HTE.out, g5]
          cases hc9 : nameB p.text.data.toList with
          | true =>
           have G9 := Lh hc9; clear hc9
           cases hc10 : Sh.none.ev Nd.right q with
           | true =>
            have G10 := Lh hc10; clear hc10; have HF := Lh (show tryL l = false by rw [HV1.out, hR.out, PS3.out q v HQ.out G10.out (.inl g5)]); clear h1' h3' h5'
            go_wp2_with (first | (go_at_call 34; refine (HBa.out _ hbq).mono ?_; rintro e w_1 ⟨he1, hq1⟩; rw [G2.out] at he1; subst he1; have hw1 := hbq.trans (hq1.mono hbq.size); obtain ⟨a100, a101, a102, a103, a104, a105⟩ := cl6 hq1 z0 z1 z2 z3 z4 z5; have hl1g0 := blt a100; obtain ⟨a110, a111, a112, a113, a114, a115⟩ := cl6 hq1 k0 k1 k2 k3 k4 k5; have hl1g1 := blt a110; obtain ⟨a120, a121, a122, a123, a124, a125⟩ := cl6 hq1 v0 v1 v2 v3 v4 v5; have hl1g2 := blt a120) | (go_at_call 95; refine (HBl.out _ hw1).mono ?_; rintro e w_2 ⟨he2, hq2⟩; rw [G4.out] at he2; subst he2; have hw2 := hw1.trans (hq2.mono hw1.size); obtain ⟨a200, a201, a202, a203, a204, a205⟩ := cl6 hq2 a100 a101 a102 a103 a104 a105; have hl2g0 := blt a200; obtain ⟨a210, a211, a212, a213, a214, a215⟩ := cl6 hq2 a110 a111 a112 a113 a114 a115; have hl2g1 := blt a210; obtain ⟨a220, a221, a222, a223, a224, a225⟩ := cl6 hq2 a120 a121 a122 a123 a124 a125; have hl2g2 := blt a220) | (go_at_call 92; refine (HNm.out _ hw2).mono ?_; rintro e w_3 ⟨he3, hq3⟩; rw [G9.out] at he3; subst he3; have hw3 := hw2.trans (hq3.mono hw2.size); obtain ⟨a300, a301, a302, a303, a304, a305⟩ := cl6 hq3 a200 a201 a202 a203 a204 a205; have hl3g0 := blt a300; obtain ⟨a310, a311, a312, a313, a314, a315⟩ := cl6 hq3 a210 a211 a212 a213 a214 a215; have hl3g1 := blt a310; obtain ⟨a320, a321, a322, a323, a324, a325⟩ := cl6 hq3 a220 a221 a222 a223 a224 a225; have hl3g2 := blt a320) | (go_at_call 94; refine (HNo.out _ hw3).mono ?_; rintro e w_4 ⟨he4, hq4⟩; rw [G10.out] at he4; subst he4; have hw4 := hw3.trans (hq4.mono hw3.size); obtain ⟨a400, a401, a402, a403, a404, a405⟩ := cl6 hq4 a300 a301 a302 a303 a304 a305; have hl4g0 := blt a400; obtain ⟨a410, a411, a412, a413, a414, a415⟩ := cl6 hq4 a310 a311 a312 a313 a314 a315; have hl4g1 := blt a410; obtain ⟨a420, a421, a422, a423, a424, a425⟩ := cl6 hq4 a320 a321 a322 a323 a324 a325; have hl4g2 := blt a420))
            go_ret; exact ⟨by rw [HF.out]; rfl, hw4⟩
           | false =>
            have G10 := Lh hc10; clear hc10
            cases hc11 : Sh.expr.ev Nd.right q with
            | true =>
             have G11 := Lh hc11; clear hc11; have HZ := Lh (show catchB Nd.right (l.drop 1) = catchB Nd.right (l.drop (k + 1)) from hR.out.trans (by rw [PS5.out q v HQ.out h1' G2.out G4.out (.inr G9.out) G10.out, G11.out]; rfl)); clear h1' h3' h5'
             go_wp2_with (first | (go_at_call 34; refine (HBa.out _ hbq).mono ?_; rintro e w_1 ⟨he1, hq1⟩; rw [G2.out] at he1; subst he1; have hw1 := hbq.trans (hq1.mono hbq.size); obtain ⟨a100, a101, a102, a103, a104, a105⟩ := cl6 hq1 z0 z1 z2 z3 z4 z5; have hl1g0 := blt a100; obtain ⟨a110, a111, a112, a113, a114, a115⟩ := cl6 hq1 k0 k1 k2 k3 k4 k5; have hl1g1 := blt a110; obtain ⟨a120, a121, a122, a123, a124, a125⟩ := cl6 hq1 v0 v1 v2 v3 v4 v5; have hl1g2 := blt a120) | (go_at_call 95; refine (HBl.out _ hw1).mono ?_; rintro e w_2 ⟨he2, hq2⟩; rw [G4.out] at he2; subst he2; have hw2 := hw1.trans (hq2.mono hw1.size); obtain ⟨a200, a201, a202, a203, a204, a205⟩ := cl6 hq2 a100 a101 a102 a103 a104 a105; have hl2g0 := blt a200; obtain ⟨a210, a211, a212, a213, a214, a215⟩ := cl6 hq2 a110 a111 a112 a113 a114 a115; have hl2g1 := blt a210; obtain ⟨a220, a221, a222, a223, a224, a225⟩ := cl6 hq2 a120 a121 a122 a123 a124 a125; have hl2g2 := blt a220) | (go_at_call 92; refine (HNm.out _ hw2).mono ?_; rintro e w_3 ⟨he3, hq3⟩; rw [G9.out] at he3; subst he3; have hw3 := hw2.trans (hq3.mono hw2.size); obtain ⟨a300, a301, a302, a303, a304, a305⟩ := cl6 hq3 a200 a201 a202 a203 a204 a205; have hl3g0 := blt a300; obtain ⟨a310, a311, a312, a313, a314, a315⟩ := cl6 hq3 a210 a211 a212 a213 a214 a215; have hl3g1 := blt a310; obtain ⟨a320, a321, a322, a323, a324, a325⟩ := cl6 hq3 a220 a221 a222 a223 a224 a225; have hl3g2 := blt a320) | (go_at_call 94; refine (HNo.out _ hw3).mono ?_; rintro e w_4 ⟨he4, hq4⟩; rw [G10.out] at he4; subst he4; have hw4 := hw3.trans (hq4.mono hw3.size); obtain ⟨a400, a401, a402, a403, a404, a405⟩ := cl6 hq4 a300 a301 a302 a303 a304 a305; have hl4g0 := blt a400; obtain ⟨a410, a411, a412, a413, a414, a415⟩ := cl6 hq4 a310 a311 a312 a313 a314 a315; have hl4g1 := blt a410; obtain ⟨a420, a421, a422, a423, a424, a425⟩ := cl6 hq4 a320 a321 a322 a323 a324 a325; have hl4g2 := blt a420) | (go_at_call 91; refine (HEx.out _ hw4).mono ?_; rintro e w_5 ⟨he5, hq5⟩; rw [G11.out] at he5; subst he5; have hw5 := hw4.trans (hq5.mono hw4.size); obtain ⟨a500, a501, a502, a503, a504, a505⟩ := cl6 hq5 a400 a401 a402 a403 a404 a405; have hl5g0 := blt a500; obtain ⟨a510, a511, a512, a513, a514, a515⟩ := cl6 hq5 a410 a411 a412 a413 a414 a415; have hl5g1 := blt a510; obtain ⟨a520, a521, a522, a523, a524, a525⟩ := cl6 hq5 a420 a421 a422 a423 a424 a425; have hl5g2 := blt a520))
             go_roundw
             case rel => exact ⟨k + 1, by go_num, by omega, by omega, HZ, hw5⟩
             case measure => simp [intOf]; omega
            | false =>
             have G11 := Lh hc11; clear hc11; have HF := Lh (show tryL l = false by rw [HV1.out, hR.out, PS5.out q v HQ.out h1' G2.out G4.out (.inr G9.out) G10.out, G11.out, Bool.false_and]); clear h1' h3' h5'
             go_wp2_with (first | (go_at_call 34; refine (HBa.out _ hbq).mono ?_; rintro e w_1 ⟨he1, hq1⟩; rw [G2.out] at he1; subst he1; have hw1 := hbq.trans (hq1.mono hbq.size); obtain ⟨a100, a101, a102, a103, a104, a105⟩ := cl6 hq1 z0 z1 z2 z3 z4 z5; have hl1g0 := blt a100; obtain ⟨a110, a111, a112, a113, a114, a115⟩ := cl6 hq1 k0 k1 k2 k3 k4 k5; have hl1g1 := blt a110; obtain ⟨a120, a121, a122, a123, a124, a125⟩ := cl6 hq1 v0 v1 v2 v3 v4 v5; have hl1g2 := blt a120) | (go_at_call 95; refine (HBl.out _ hw1).mono ?_; rintro e w_2 ⟨he2, hq2⟩; rw [G4.out] at he2; subst he2; have hw2 := hw1.trans (hq2.mono hw1.size); obtain ⟨a200, a201, a202, a203, a204, a205⟩ := cl6 hq2 a100 a101 a102 a103 a104 a105; have hl2g0 := blt a200; obtain ⟨a210, a211, a212, a213, a214, a215⟩ := cl6 hq2 a110 a111 a112 a113 a114 a115; have hl2g1 := blt a210; obtain ⟨a220, a221, a222, a223, a224, a225⟩ := cl6 hq2 a120 a121 a122 a123 a124 a125; have hl2g2 := blt a220) | (go_at_call 92; refine (HNm.out _ hw2).mono ?_; rintro e w_3 ⟨he3, hq3⟩; rw [G9.out] at he3; subst he3; have hw3 := hw2.trans (hq3.mono hw2.size); obtain ⟨a300, a301, a302, a303, a304, a305⟩ := cl6 hq3 a200 a201 a202 a203 a204 a205; have hl3g0 := blt a300; obtain ⟨a310, a311, a312, a313, a314, a315⟩ := cl6 hq3 a210 a211 a212 a213 a214 a215; have hl3g1 := blt a310; obtain ⟨a320, a321, a322, a323, a324, a325⟩ := cl6 hq3 a220 a221 a222 a223 a224 a225; have hl3g2 := blt a320) | (go_at_call 94; refine (HNo.out _ hw3).mono ?_; rintro e w_4 ⟨he4, hq4⟩; rw [G10.out] at he4; subst he4; have hw4 := hw3.trans (hq4.mono hw3.size); obtain ⟨a400, a401, a402, a403, a404, a405⟩ := cl6 hq4 a300 a301 a302 a303 a304 a305; have hl4g0 := blt a400; obtain ⟨a410, a411, a412, a413, a414, a415⟩ := cl6 hq4 a310 a311 a312 a313 a314 a315; have hl4g1 := blt a410; obtain ⟨a420, a421, a422, a423, a424, a425⟩ := cl6 hq4 a320 a321 a322 a323 a324 a325; have hl4g2 := blt a420) | (go_at_call 91; refine (HEx.out _ hw4).mono ?_; rintro e w_5 ⟨he5, hq5⟩; rw [G11.out] at he5; subst he5; have hw5 := hw4.trans (hq5.mono hw4.size); obtain ⟨a500, a501, a502, a503, a504, a505⟩ := cl6 hq5 a400 a401 a402 a403 a404 a405; have hl5g0 := blt a500; obtain ⟨a510, a511, a512, a513, a514, a515⟩ := cl6 hq5 a410 a411 a412 a413 a414 a415; have hl5g1 := blt a510; obtain ⟨a520, a521, a522, a523, a524, a525⟩ := cl6 hq5 a420 a421 a422 a423 a424 a425; have hl5g2 := blt a520))
             go_ret; exact ⟨by rw [HF.out]; rfl, hw5⟩
          | false =>
           have G9 := Lh hc9; clear hc9; have HF := Lh (show tryL l = false by rw [HV1.out, hR.out, PS2.out q v HQ.out (.inr ⟨g5, G9.out⟩)]); clear h1' h3' h5'
           go_wp2_with (first | (go_at_call 34; refine (HBa.out _ hbq).mono ?_; rintro e w_1 ⟨he1, hq1⟩; rw [G2.out] at he1; subst he1; have hw1 := hbq.trans (hq1.mono hbq.size); obtain ⟨a100, a101, a102, a103, a104, a105⟩ := cl6 hq1 z0 z1 z2 z3 z4 z5; have hl1g0 := blt a100; obtain ⟨a110, a111, a112, a113, a114, a115⟩ := cl6 hq1 k0 k1 k2 k3 k4 k5; have hl1g1 := blt a110; obtain ⟨a120, a121, a122, a123, a124, a125⟩ := cl6 hq1 v0 v1 v2 v3 v4 v5; have hl1g2 := blt a120) | (go_at_call 95; refine (HBl.out _ hw1).mono ?_; rintro e w_2 ⟨he2, hq2⟩; rw [G4.out] at he2; subst he2; have hw2 := hw1.trans (hq2.mono hw1.size); obtain ⟨a200, a201, a202, a203, a204, a205⟩ := cl6 hq2 a100 a101 a102 a103 a104 a105; have hl2g0 := blt a200; obtain ⟨a210, a211, a212, a213, a214, a215⟩ := cl6 hq2 a110 a111 a112 a113 a114 a115; have hl2g1 := blt a210; obtain ⟨a220, a221, a222, a223, a224, a225⟩ := cl6 hq2 a120 a121 a122 a123 a124 a125; have hl2g2 := blt a220) | (go_at_call 92; refine (HNm.out _ hw2).mono ?_; rintro e w_3 ⟨he3, hq3⟩; rw [G9.out] at he3; subst he3; have hw3 := hw2.trans (hq3.mono hw2.size); obtain ⟨a300, a301, a302, a303, a304, a305⟩ := cl6 hq3 a200 a201 a202 a203 a204 a205; have hl3g0 := blt a300; obtain ⟨a310, a311, a312, a313, a314, a315⟩ := cl6 hq3 a210 a211 a212 a213 a214 a215; have hl3g1 := blt a310; obtain ⟨a320, a321, a322, a323, a324, a325⟩ := cl6 hq3 a220 a221 a222 a223 a224 a225; have hl3g2 := blt a320))
           go_ret; exact ⟨by rw [HF.out]; rfl, hw3⟩
        | false =>
         have G4 := Lh hc4; clear hc4; have HF := Lh (show tryL l = false by rw [HV1.out, hR.out, PS2.out q v HQ.out (.inl G4.out)]); clear h1' h3'
         go_wp2_with (first | (go_at_call 34; refine (HBa.out _ hbq).mono ?_; rintro e w_1 ⟨he1, hq1⟩; rw [G2.out] at he1; subst he1; have hw1 := hbq.trans (hq1.mono hbq.size); obtain ⟨a100, a101, a102, a103, a104, a105⟩ := cl6 hq1 z0 z1 z2 z3 z4 z5; have hl1g0 := blt a100; obtain ⟨a110, a111, a112, a113, a114, a115⟩ := cl6 hq1 k0 k1 k2 k3 k4 k5; have hl1g1 := blt a110; obtain ⟨a120, a121, a122, a123, a124, a125⟩ := cl6 hq1 v0 v1 v2 v3 v4 v5; have hl1g2 := blt a120) | (go_at_call 95; refine (HBl.out _ hw1).mono ?_; rintro e w_2 ⟨he2, hq2⟩; rw [G4.out] at he2; subst he2; have hw2 := hw1.trans (hq2.mono hw1.size); obtain ⟨a200, a201, a202, a203, a204, a205⟩ := cl6 hq2 a100 a101 a102 a103 a104 a105; have hl2g0 := blt a200; obtain ⟨a210, a211, a212, a213, a214, a215⟩ := cl6 hq2 a110 a111 a112 a113 a114 a115; have hl2g1 := blt a210; obtain ⟨a220, a221, a222, a223, a224, a225⟩ := cl6 hq2 a120 a121 a122 a123 a124 a125; have hl2g2 := blt a220))
         go_ret; exact ⟨by rw [HF.out]; rfl, hw2⟩
       ·have g3 : (p.kids.length == 2) = false := by simp [h3']
        have el : ((p.kids.length : Int) == 2) = false := bFo; have elb : ((p.kids.length : Int) != 2) = true := bne_iff_ne.2 lq29; have HF := Lh (show tryL l = false by rw [HV1.out, hR.out, PS1.out (.inr (.inr h3'))]); clear h1' h3'; exact lv139
      | false =>
       have G2 := Lh hc2; clear hc2; have HF := Lh (show tryL l = false by rw [HV1.out, hR.out, PS1.out (.inr (.inl G2.out))]); clear h1'; exact lv139
     ·have g1 : (p.kind == 22) = false := by simp [h1']
      have ek : (p.kind == 22) = false := by simpa using h1'
      have ek' : (p.kind != 22) = true := by simp [h1']
      have HF := Lh (show tryL l = false by rw [HV1.out, hR.out, PS1.out (.inl h1')]); clear h1'; go_wp2_with fail; go_ret; exact ⟨by rw [HF.out]; rfl, hbq⟩
    ·have o1 : decide ((k : Int) < (n : Int)) = false := dFo; have o2 : decide (k < n) = false := dFa hkl; have hR2 := hR.out; rw [show l.drop k = [] from List.drop_eq_nil_of_le (by rw [HNn.out]; omega), catchB] at hR2; have HR2 := Lh hR2; clear hR2; go_wp2_with fail; go_ret; exact ⟨by rw [HV1.out, HR2.out]; rfl, hbr⟩
theorem kids_1 {l : List Nd} (h : l.length = 1) : ∃ a, l = [a] := by
 match l, h with
 | [a], _ => exact ⟨a, rfl⟩
theorem kids_2 {l : List Nd} (h : l.length = 2) : ∃ a b, l = [a, b] := by
 match l, h with
 | [a, b], _ => exact ⟨a, b, rfl⟩
theorem kids_3 {l : List Nd} (h : l.length = 3) : ∃ a b c, l = [a, b, c] := by
 match l, h with
 | [a, b, c], _ => exact ⟨a, b, c, rfl⟩
theorem st_at {T : Nd} {k : Int} (hk : T.kind = k) {tx : Tx} {fm : Fm} (hf : formOf k = some (tx, fm)) (h3 : 3 ≤ k) (h21 : k ≤ 21) (h19 : k ≠ 19) : Sh.stmt.ev Nd.right T = (tx.ev T.text && noNumB T && fm.ev Nd.right T) := by
 have : Sh.stmt.ev Nd.right T = T.right := by simp [Sh.ev, hk, h3, h21, h19]
 rw [this, right_at hk hf lq29]
end
end Go.Proofs.YtjefhdlncikhmaaGreatDoor
