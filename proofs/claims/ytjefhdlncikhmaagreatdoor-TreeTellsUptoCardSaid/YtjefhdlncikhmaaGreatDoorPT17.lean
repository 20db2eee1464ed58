/- Joined by a program: Q5, Wr3a. -/
import Derived.Test.YtjefhdlncikhmaaGreatDoorPT10
import Derived.Test.YtjefhdlncikhmaaGreatDoorPT16
namespace Go.Proofs.YtjefhdlncikhmaaGreatDoor
set_option linter.unusedVariables false
set_option linter.unusedSimpArgs false
set_option maxRecDepth 1000000
set_option maxHeartbeats 16000000
section
open Go.RowKit
open List (length_append length_cons length_nil length_singleton)
def RStmtOk (D : Nat) : Prop := ∀ (T : Nd) (A : Option Addr) (c : Nat) (K : Option Addr) (d : Nat) (W : World), T.depth ≤ D → T.weight ≤ 1000000 → NodeAt W T A c K d →
 Calls Tryz.prog 49 #[ndV T A c K d] W fun e w' => e = .returned (.bool (Sh.stmt.ev Nd.right T)) ∧ Below W.heap.size W w'
theorem rLines_ok (D : Nat) (hS : RStmtOk D) (T : Nd) (A : Option Addr) (c : Nat) (K : Option Addr) (d : Nat) (w : World) (hD : T.depth ≤ D + 1) (hW : T.weight ≤ 1000000) (hN : NodeAt w T A c K d) :
  Calls Tryz.prog 35 #[ndV T A c K d] w fun e w' => e = .returned (.bool ((Sh.of 2).ev Nd.right T)) ∧ Below w.heap.size w w' := by
 have HBa := Lh (fun W (hb : Below w.heap.size w W) => by
  have := rBare_ok T A c K d W (hN.later hb); unfold ndV at this
  exact this)
 have HTE := Lh (text_empty T.text)
 have HS := Lh hS
 have HWi := Lh (wKM hD hW)
 have HEV := Lh (show (Sh.of 2).ev Nd.right T = (((T.kind == 2) && (T.text.size == 0) && noNumB T) && T.kids.all (Sh.stmt.ev Nd.right)) by
  by_cases hk : T.kind = 2
  ·rw [ev_of hk (tx := .non) (fm := .some 0 .stmt) rfl lq28]; simp only [hk, Tx.ev, Fm.ev]
   simp [Bool.and_assoc]
  ·rw [ev_of_not hk]; simp [hk])
 clear hS hD hW
 by_cases h1' : T.kind = 2
 ·have g1 : (T.kind == 2) = true := by simp [h1']
  have ek : (T.kind == 2) = true := by simpa using h1'
  have ek' : (T.kind != 2) = false := by simp [h1']
  by_cases h2' : T.text.size = 0
  ·have g2 : (T.text.size == 0) = true := by simp [h2']
   have et : T.text.toList.isEmpty = true := by rw [HTE.out, g2]
   cases hc3 : noNumB T with
   | true =>
    have G3 := Lh hc3; clear hc3; have HV1 := Lh (show ((T.kind == 2) && (T.text.size == 0) && noNumB T) = true by simp [g1, g2, G3.out]); clear h1' h2'; obtain ⟨hm1, hm2, hrm, hw32, hk1, hk2, ⟨hk64a, hk64b⟩, ⟨ha64a, ha64b⟩, hts, hKs, HK⟩ := hN.hd; obtain ⟨hb1, c0, c1, c2, c3, c4, c5⟩ := bxn w T A c K d; unfold ndV; clear hKs hN; go_enter Tryz.func35, Tryz.ntmps35
    go_wp2_with (first | (go_at_call 34; refine (HBa.out _ hb1).mono ?_; rintro e w_1 ⟨he1, hq1⟩; rw [G3.out] at he1; subst he1; have hw1 := hb1.trans (hq1.mono hb1.size); obtain ⟨a100, a101, a102, a103, a104, a105⟩ := cl6 hq1 c0 c1 c2 c3 c4 c5; have hl1g0 := blt a100)); have HW0 := Lh hw1
    go_loopw [3] (fun iv wr => ∃ k : Nat, iv = .int .i64 k ∧ k ≤ T.kids.length ∧ Hid ((T.kids.take k).all (Sh.stmt.ev Nd.right) = true) ∧ Below w_1.heap.size w_1 wr) (fun iv _ => T.kids.length - (intOf iv).toNat)
    case atStart => exact ⟨0, rfl, Nat.zero_le _, Lh rfl, Below.refl _ _⟩
    case round =>
     obtain ⟨k, rfl, hk, hR, hbr⟩ := hrel; have hbw := HW0.out.trans (hbr.mono HW0.out.size); have d5 := cLt hbr a105; have hlw := blt d5
     by_cases hkl : k < T.kids.length
     ·have o1 : decide ((k : Int) < (T.kids.length : Int)) = true := dTo; have o2 : decide (k < T.kids.length) = true := dTr hkl; obtain ⟨t, ht⟩ : ∃ t, T.kids[k]? = some t := ⟨_, List.getElem?_eq_getElem hkl⟩; obtain ⟨b, off, A', c', K', d', hKe, hC, hNt⟩ := HK.out k t ht; subst hKe; obtain ⟨n0, n1, n2, n3, n4, n5⟩ := hC.later hbw; obtain ⟨hd1, hw1⟩ := HWi.out t (mog ht); have hI := HS.out t A' c' K' d' wr hd1 hw1 (hNt.later hbw); unfold ndV at hI; have HI := Lh hI; have HAT := Lh (all_take (p := Sh.stmt.ev Nd.right) ht)
      have HAL := Lh (fun h => all_le (l := T.kids) (p := Sh.stmt.ev Nd.right) (k := k + 1) h); clear hI hC hNt ht hd1 hw1
      cases hp : Sh.stmt.ev Nd.right t with
      | true =>
       rw [hp] at HI; have HZ := Lh (show (T.kids.take (k + 1)).all (Sh.stmt.ev Nd.right) = true by rw [HAT.out, hR.out, hp]; rfl); clear hp; go_wp2_with (go_at_call 49; refine HI.out.mono ?_; rintro e w3 ⟨rfl, hb3⟩); exact lv180
      | false =>
       rw [hp] at HI; have HZ := Lh (show T.kids.all (Sh.stmt.ev Nd.right) = false from HAL.out (by rw [HAT.out, hp, Bool.and_false])); clear hp; go_wp2_with (go_at_call 49; refine HI.out.mono ?_; rintro e w3 ⟨rfl, hb3⟩); go_ret; exact ⟨by rw [HEV.out, HV1.out, HZ.out]; rfl, hbw.trans (hb3.mono hbw.size)⟩
     ·exact lv147
   | false =>
    have G3 := Lh hc3; clear hc3; have HV := Lh (show (Sh.of 2).ev Nd.right T = false by rw [HEV.out]; simp [g1, g2, G3.out]); clear h1' h2'; obtain ⟨hm1, hm2, hrm, hw32, hk1, hk2, ⟨hk64a, hk64b⟩, ⟨ha64a, ha64b⟩, hts, hKs, HK⟩ := hN.hd; obtain ⟨hb1, c0, c1, c2, c3, c4, c5⟩ := bxn w T A c K d; unfold ndV; clear hKs hN; go_enter Tryz.func35, Tryz.ntmps35
    go_wp2_with (first | (go_at_call 34; refine (HBa.out _ hb1).mono ?_; rintro e w_1 ⟨he1, hq1⟩; rw [G3.out] at he1; subst he1; have hw1 := hb1.trans (hq1.mono hb1.size); obtain ⟨a100, a101, a102, a103, a104, a105⟩ := cl6 hq1 c0 c1 c2 c3 c4 c5; have hl1g0 := blt a100)); go_ret; exact ⟨by rw [HV.out]; rfl, hw1⟩
  ·have g2 : (T.text.size == 0) = false := by simp [h2']
   have et : T.text.toList.isEmpty = false := by rw [HTE.out, g2]
   have HV := Lh (show (Sh.of 2).ev Nd.right T = false by rw [HEV.out]; simp [g1, g2]); clear h1' h2'; exact lv153
 ·have g1 : (T.kind == 2) = false := by simp [h1']
  have ek : (T.kind == 2) = false := by simpa using h1'
  have ek' : (T.kind != 2) = true := by simp [h1']
  have HV := Lh (show (Sh.of 2).ev Nd.right T = false by rw [HEV.out]; simp [g1]); clear h1'; exact lv153
theorem ev_block (T : Nd) : Sh.block.ev Nd.right T = (decide (0 < T.kids.length) && (Sh.of 2).ev Nd.right T) := by
 simp only [Sh.ev]
 cases (T.kind == 2) <;> simp
theorem rBlock_ok (D : Nat) (hS : RStmtOk D) (T : Nd) (A : Option Addr) (c : Nat) (K : Option Addr) (d : Nat) (w : World) (hD : T.depth ≤ D + 1) (hW : T.weight ≤ 1000000) (hN : NodeAt w T A c K d) :
  Calls Tryz.prog 95 #[ndV T A c K d] w fun e w' => e = .returned (.bool (Sh.block.ev Nd.right T)) ∧ Below w.heap.size w w' := by
 have HLi := Lh (fun W (hb : Below w.heap.size w W) => by
  have := rLines_ok D hS T A c K d W hD hW (hN.later hb); unfold ndV at this
  exact this)
 have HEV := Lh (ev_block T)
 clear hS hD hW
 by_cases h1' : 0 < T.kids.length
 ·have g1 : decide (0 < T.kids.length) = true := by simp [h1']
  have el : decide ((0 : Int) < (T.kids.length : Int)) = true := dTo
  cases hc2 : (Sh.of 2).ev Nd.right T with
  | true =>
   have G2 := Lh hc2; clear hc2; have HV := Lh (show Sh.block.ev Nd.right T = true by rw [HEV.out]; simp [g1, G2.out]); exact lv110
  | false =>
   have G2 := Lh hc2; clear hc2; have HV := Lh (show Sh.block.ev Nd.right T = false by rw [HEV.out]; simp [g1, G2.out]); exact lv110
 ·have g1 : decide (0 < T.kids.length) = false := by simp [h1']
  have el : decide ((0 : Int) < (T.kids.length : Int)) = false := dFo; have HV := Lh (show Sh.block.ev Nd.right T = false by rw [HEV.out]; simp [g1]); clear h1'; obtain ⟨hm1, hm2, hrm, hw32, hk1, hk2, ⟨hk64a, hk64b⟩, ⟨ha64a, ha64b⟩, hts, hKs, HK⟩ := hN.hd; obtain ⟨hb1, c0, c1, c2, c3, c4, c5⟩ := bxn w T A c K d; unfold ndV; clear hKs hN; go_enter Tryz.func95, Tryz.ntmps95; go_wp2_with fail; go_ret; exact ⟨by rw [HV.out]; rfl, hb1⟩
theorem single_of {l : List Nd} (h0 : ¬ l.length = 0) (h1 : ¬ 1 < l.length) : ∃ q, l = [q] := by
 match l, h0, h1 with
 | [], h0, _ => simp at h0
 | [q], _, _ => exact ⟨q, rfl⟩
 | a :: b :: r, _, h1 => simp at h1
def defL (l : List Nd) : Bool := decide (1 ≤ l.length) && paramsB Nd.right false l.dropLast && (l.drop (l.length - 1)).all (Sh.block.ev Nd.right)
theorem def_at {l : List Nd} {m : Nat} {t : Nd} (hm : l.length = m + 1) (ht : l[m]? = some t) : defL l = (Sh.block.ev Nd.right t && paramsB Nd.right false (l.take m)) := by
 have hdl : l.dropLast = l.take m := by rw [List.dropLast_eq_take, hm]; rfl
 have hdr : l.drop (l.length - 1) = [t] := by
  obtain ⟨q1, q2⟩ := List.getElem?_eq_some_iff.1 ht; rw [hm, Nat.add_sub_cancel, List.drop_eq_getElem_cons q1, q2, List.drop_eq_nil_of_le lq29]
 rw [defL, hdl, hdr, dTo]
 simp [Bool.and_comm]
theorem param_eq {t : Nd} (hk : t.kind = 19) : t.right = (nameB t.text.data.toList && noNumB t && ((t.kids.length == 0) || rowB t.kids [(Sh.or2 .none .expr).ev Nd.right])) := by
 rw [right_at hk (tx := .name) (fm := .prm) rfl lq28]
 rfl
theorem kind_none {q : Nd} (h : Sh.none.ev Nd.right q = true) : q.kind = 0 := by
 simp only [Sh.ev, Bool.and_eq_true, beq_iff_eq] at h
 exact h.1.1.1
theorem kind_expr {q : Nd} (h : Sh.expr.ev Nd.right q = true) : ¬ q.kind = 0 := by
 simp only [Sh.ev, Bool.and_eq_true, decide_eq_true_eq] at h
 have := h.1.2
 omega
theorem param_step {l : List Nd} {k : Nat} {p : Nd} (h : l[k]? = some p) (g : Bool) :
  (p.kind = 19 → nameB p.text.data.toList = true → noNumB p = true → p.kids.length = 0 → paramsB Nd.right g (l.drop k) = decide (l.length ≤ k + 1)) ∧
  (∀ q, p.kind = 19 → nameB p.text.data.toList = true → noNumB p = true → p.kids = [q] → Sh.none.ev Nd.right q = true → paramsB Nd.right g (l.drop k) = (if g then false else paramsB Nd.right g (l.drop (k + 1)))) ∧
  (∀ q, p.kind = 19 → nameB p.text.data.toList = true → noNumB p = true → p.kids = [q] → Sh.none.ev Nd.right q = false → paramsB Nd.right g (l.drop k) = (Sh.expr.ev Nd.right q && paramsB Nd.right true (l.drop (k + 1)))) ∧
  ((¬ p.kind = 19 ∨ nameB p.text.data.toList = false ∨ noNumB p = false ∨ 1 < p.kids.length) → paramsB Nd.right g (l.drop k) = false) := by
 have hpd := params_drop h g
 refine ⟨?_, ?_, ?_, ?_⟩
 ·intro h1 h2 h3 h4; have hr : p.right = true := by rw [param_eq h1, h2, h3, h4]; rfl
  rw [hpd, hr, h1]; have : p.kids = [] := List.length_eq_zero_iff.1 h4; rw [this]
  simp [isEmpty_drop]
 ·intro q h1 h2 h3 h4 h5; have hr : p.right = true := by rw [param_eq h1, h2, h3, h4]; simp [rowB, Sh.ev] at h5 ⊢; simp [h5]
  rw [hpd, hr, h1, h4]
  simp [kind_none h5]
 ·intro q h1 h2 h3 h4 h5; have hr : p.right = Sh.expr.ev Nd.right q := by
   rw [param_eq h1, h2, h3, h4]; simp only [rowB, length_cons, length_nil, Bool.and_true, Bool.true_and]
   show ((0 + 1 == 0) || (Sh.none.ev Nd.right q || Sh.expr.ev Nd.right q)) = _
   rw [h5]; rfl
  rw [hpd, hr, h1, h4]
  cases he : Sh.expr.ev Nd.right q with
  | false => simp
  | true => simp [kind_expr he]
 ·intro hh; rw [hpd]
  by_cases h1 : p.kind = 19
  ·have hr : p.right = false := by
    rw [param_eq h1]
    rcases hh with hh | hh | hh | hh
    ·exact absurd h1 hh
    ·rw [hh]; rfl
    ·rw [hh]; simp
    ·have e1 : (p.kids.length == 0) = false := by simp; intro e; rw [e] at hh; simp at hh
     rw [e1, rowB_len (l := p.kids) (L := [(Sh.or2 .none .expr).ev Nd.right]) lq26]
     simp
   rw [hr]; simp
  ·simp [h1]
theorem rDef_ok (D : Nat) (hS : RStmtOk D) (l : List Nd) (n : Nat) (K : Option Addr) (d : Nat) (w : World) (hn : l.length = n) (hl : KidsAt w l K 0) (hWi : WithinM D l) (hnd : n ≤ d) (hd : d ≤ maxLen) :
  Calls Tryz.prog 93 #[.slice K n d] w fun e w' => e = .returned (.bool (defL l)) ∧ Below w.heap.size w w' := by
 have hd' := hd
 unfold maxLen at hd
 by_cases h0 : n = 0
 ·have e1 : ((n : Int) == 0) = true := by rw [h0]; rfl
  have HV := Lh (show defL l = false by rw [defL, hn, h0]; rfl); clear hS hl hWi hn; subst h0; go_enter Tryz.func93, Tryz.ntmps93; go_wp2_with fail; go_ret; exact ⟨by rw [HV.out]; rfl, Below.refl _ _⟩
 ·obtain ⟨m, rfl⟩ : ∃ m, n = m + 1 := ⟨n - 1, by omega⟩; have e1 : ((m : Int) + 1 == 0) = false := bFo; obtain ⟨t, ht⟩ : ∃ t, l[m]? = some t := ⟨_, gEo⟩; obtain ⟨b, off, A', c', K', d', hKe, hC, hNt⟩ := hl.kid ht; rw [Nat.zero_add] at hC; subst hKe; obtain ⟨n0, n1, n2, n3, n4, n5⟩ := hC; obtain ⟨hd1, hw1⟩ := hWi t (mog ht); have hbm : b < w.heap.size := blt n0; have hX := rBlock_ok D hS t A' c' K' d' w lq29 hw1 hNt; unfold ndV at hX; have HX := Lh hX; have HV0 := Lh (def_at hn ht); have HL := Lh hl; have HNn := Lh hn; have HW := Lh hWi; clear hS hl hWi hn ht hNt hd1 hw1 hX
  generalize Sh.block.ev Nd.right t = x at *
  cases x
  ·go_enter Tryz.func93, Tryz.ntmps93; go_wp2_with (go_at_call 95; refine HX.out.mono ?_; rintro e w3 ⟨rfl, hb3⟩); go_ret; exact ⟨by rw [HV0.out]; rfl, hb3⟩
  ·have HV1 := Lh (show defL l = paramsB Nd.right false (l.take m) from HV0.out); clear HV0; go_enter Tryz.func93, Tryz.ntmps93; go_wp2_with (go_at_call 95; refine HX.out.mono ?_; rintro e w3 ⟨rfl, hb3⟩)
   go_loopw [3, 4] (fun gv iv wr => ∃ (g : Bool) (k : Nat), gv = .bool g ∧ iv = .int .i64 k ∧ k ≤ m ∧ Hid (paramsB Nd.right false (l.take m) = paramsB Nd.right g ((l.take m).drop k)) ∧ Below w.heap.size w wr) (fun _ iv _ => m - (intOf iv).toNat)
   case atStart => exact ⟨false, 0, rfl, rfl, Nat.zero_le _, Lh lq30, hb3⟩
   case round =>
    obtain ⟨g, k, rfl, rfl, hk, hR, hbr⟩ := hrel
    by_cases hkl : k < m
    ·have o1 : decide ((k : Int) + 1 < (m : Int) + 1) = true := dTo; have o2 : decide (k < m) = true := dTr hkl; obtain ⟨p, hp⟩ : ∃ p, l[k]? = some p := ⟨_, List.getElem?_eq_getElem (by rw [HNn.out]; omega)⟩; have hp2 : (l.take m)[k]? = some p := by rw [List.getElem?_take_of_lt hkl]; exact hp
     obtain ⟨b', off', A2, c2, K2, d2, hKe, hC, hNt⟩ := HL.out.kid hp; rw [Nat.zero_add] at hC; injection hKe with hKe
     injection hKe with q1 q2
     subst q1 q2; obtain ⟨m0, m1, m2, m3, m4, m5⟩ := hC.later hbr; obtain ⟨hd1, hw1⟩ := HW.out p (mog hp); have hbt := (Below.refl wr.heap.size wr).alloc (Nat.le_refl _) (.cells #[.int .i64 p.kind, .int .i64 p.pos, .string p.text, .bool p.neg, .slice A2 p.mag.length c2, .slice K2 p.kids.length d2] 27); have hbq := hbr.trans (hbt.mono hbr.size); obtain ⟨z0, z1, z2, z3, z4, z5⟩ := (cellsN_new wr p A2 c2 K2 d2 27).box; have i5 : (k : Int) < (m : Int) + 1 := by omega
     have i6 : k < m + 1 := by omega
     have HNm := Lh (fun W (_ : Below w.heap.size w W) => rName_ok p.text W (by have := p.weight_eq; omega))
     have HBa := Lh (fun W (hb : Below w.heap.size w W) => by
      have := rBare_ok p A2 c2 K2 d2 W (hNt.later hb); unfold ndV at this
      exact this)
     obtain ⟨ps1, ps2, ps3, ps4⟩ := param_step hp2 g; have PS1 := Lh ps1; have PS2 := Lh ps2; have PS3 := Lh ps3; have PS4 := Lh ps4; have HNK := Lh hNt; have hlt : (l.take m).length = m := by rw [List.length_take, HNn.out]; omega
     have HLT := Lh hlt; clear hlt ps1 ps2 ps3 ps4 hp hp2 hC hNt
     by_cases h1' : p.kind = 19
     ·have g1 : (p.kind == 19) = true := by simp [h1']
      have ek : (p.kind == 19) = true := by simpa using h1'
      have ek' : (p.kind != 19) = false := by simp [h1']
      cases hc2 : nameB p.text.data.toList with
      | true =>
       have G2 := Lh hc2; clear hc2
       cases hc3 : noNumB p with
       | true =>
        have G3 := Lh hc3; clear hc3
        by_cases h4' : 1 < p.kids.length
        ·have g4 : decide (1 < p.kids.length) = true := by simp [h4']
         have em : decide ((1 : Int) < (p.kids.length : Int)) = true := dTo; have HF := Lh (show defL l = false by rw [HV1.out, hR.out, PS4.out (.inr (.inr (.inr lq29)))]); clear h1' h4'; exact lv109
        ·have g4 : decide (1 < p.kids.length) = false := by simp [h4']
         have em : decide ((1 : Int) < (p.kids.length : Int)) = false := dFo
         by_cases h5' : p.kids.length = 0
         ·have g5 : (p.kids.length == 0) = true := by simp [h5']
          have el : ((p.kids.length : Int) == 0) = true := by rw [h5']; rfl
          have elb : ((p.kids.length : Int) != 0) = false := by rw [h5']; rfl
          by_cases h6' : k + 1 = m
          ·have g6 : decide (k + 1 = m) = true := by simp [h6']
           have ez : ((k : Int) + 2 != (m : Int) + 1) = false := by simp; omega
           have HZ := Lh (show paramsB Nd.right false (l.take m) = paramsB Nd.right g ((l.take m).drop (k + 1)) from hR.out.trans (by rw [PS1.out h1' G2.out G3.out lq29, HLT.out, dTo, List.drop_eq_nil_of_le (by rw [HLT.out]; omega), paramsB])); clear h1' h4' h5' h6'
           go_wp2_with (first | (go_at_call 92; refine (HNm.out _ hbq).mono ?_; rintro e w_1 ⟨he1, hq1⟩; rw [G2.out] at he1; subst he1; have hw1 := hbq.trans (hq1.mono hbq.size); obtain ⟨a100, a101, a102, a103, a104, a105⟩ := cl6 hq1 z0 z1 z2 z3 z4 z5; have hl1g0 := blt a100) | (go_at_call 34; refine (HBa.out _ hw1).mono ?_; rintro e w_2 ⟨he2, hq2⟩; rw [G3.out] at he2; subst he2; have hw2 := hw1.trans (hq2.mono hw1.size); obtain ⟨a200, a201, a202, a203, a204, a205⟩ := cl6 hq2 a100 a101 a102 a103 a104 a105; have hl2g0 := blt a200))
           go_roundw
           case rel => exact ⟨g, k + 1, rfl, by go_num, by omega, HZ, hw2⟩
           case measure => simp [intOf]; omega
          ·have g6 : decide (k + 1 = m) = false := by simp [h6']
           have ez : ((k : Int) + 2 != (m : Int) + 1) = true := by simp; omega
           have HF := Lh (show defL l = false by rw [HV1.out, hR.out, PS1.out h1' G2.out G3.out lq29, HLT.out, dFo]); clear h1' h4' h5' h6'; exact lv109
         ·have g5 : (p.kids.length == 0) = false := by simp [h5']
          have el : ((p.kids.length : Int) == 0) = false := bFo; have elb : ((p.kids.length : Int) != 0) = true := bne_iff_ne.2 lq29; obtain ⟨q, hq⟩ := single_of (l := p.kids) lq29 lq29; have hq0 : p.kids[0]? = some q := by rw [hq]; rfl
          obtain ⟨bk, offk, Ak, ck, Kk, dk, hKk, hCk, hNk⟩ := HNK.out.kid hq0; rw [Nat.zero_mul, Nat.add_zero] at hCk; subst hKk; obtain ⟨k0, k1, k2, k3, k4, k5⟩ := hCk.later hbq; have hdq : q.depth ≤ D ∧ q.weight ≤ 1000000 := by have h1 := Nd.depth_kid (T := p) (t := q) (by rw [hq]; simp); have h2 := Nd.weight_kid (T := p) (t := q) (by rw [hq]; simp); omega
          have HNo := Lh (fun W (hb : Below w.heap.size w W) => by
           have := rNone_ok q Ak ck Kk dk W (hNk.later hb); unfold ndV at this
           exact this)
          have HEx := Lh (fun W (hb : Below w.heap.size w W) => by
           have := rExpr_ok D q Ak ck Kk dk W hdq.1 hdq.2 (hNk.later hb); unfold ndV at this
           exact this)
          have HQ := Lh hq; have j1 : (0 : Int) < (p.kids.length : Int) := by omega
          have j2 : 0 < p.kids.length := by omega
          clear hq hq0 hCk hNk hdq
          cases hc7 : Sh.none.ev Nd.right q with
          | true =>
           have G7 := Lh hc7; clear hc7
           cases g with
           | true =>
            have HF := Lh (show defL l = false by rw [HV1.out, hR.out, PS2.out q h1' G2.out G3.out HQ.out G7.out]; rfl); clear h1' h4' h5'
            go_wp2_with (first | (go_at_call 92; refine (HNm.out _ hbq).mono ?_; rintro e w_1 ⟨he1, hq1⟩; rw [G2.out] at he1; subst he1; have hw1 := hbq.trans (hq1.mono hbq.size); obtain ⟨a100, a101, a102, a103, a104, a105⟩ := cl6 hq1 z0 z1 z2 z3 z4 z5; have hl1g0 := blt a100; obtain ⟨a110, a111, a112, a113, a114, a115⟩ := cl6 hq1 k0 k1 k2 k3 k4 k5; have hl1g1 := blt a110) | (go_at_call 34; refine (HBa.out _ hw1).mono ?_; rintro e w_2 ⟨he2, hq2⟩; rw [G3.out] at he2; subst he2; have hw2 := hw1.trans (hq2.mono hw1.size); obtain ⟨a200, a201, a202, a203, a204, a205⟩ := cl6 hq2 a100 a101 a102 a103 a104 a105; have hl2g0 := blt a200; obtain ⟨a210, a211, a212, a213, a214, a215⟩ := cl6 hq2 a110 a111 a112 a113 a114 a115; have hl2g1 := blt a210) | (go_at_call 94; refine (HNo.out _ hw2).mono ?_; rintro e w_3 ⟨he3, hq3⟩; rw [G7.out] at he3; subst he3; have hw3 := hw2.trans (hq3.mono hw2.size); obtain ⟨a300, a301, a302, a303, a304, a305⟩ := cl6 hq3 a200 a201 a202 a203 a204 a205; have hl3g0 := blt a300; obtain ⟨a310, a311, a312, a313, a314, a315⟩ := cl6 hq3 a210 a211 a212 a213 a214 a215; have hl3g1 := blt a310))
            go_ret; exact ⟨by rw [HF.out]; rfl, hw3⟩
           | false =>
            have HZ := Lh (show paramsB Nd.right false (l.take m) = paramsB Nd.right false ((l.take m).drop (k + 1)) from hR.out.trans (PS2.out q h1' G2.out G3.out HQ.out G7.out)); clear h1' h4' h5'
            go_wp2_with (first | (go_at_call 92; refine (HNm.out _ hbq).mono ?_; rintro e w_1 ⟨he1, hq1⟩; rw [G2.out] at he1; subst he1; have hw1 := hbq.trans (hq1.mono hbq.size); obtain ⟨a100, a101, a102, a103, a104, a105⟩ := cl6 hq1 z0 z1 z2 z3 z4 z5; have hl1g0 := blt a100; obtain ⟨a110, a111, a112, a113, a114, a115⟩ := cl6 hq1 k0 k1 k2 k3 k4 k5; have hl1g1 := blt a110) | (go_at_call 34; refine (HBa.out _ hw1).mono ?_; rintro e w_2 ⟨he2, hq2⟩; rw [G3.out] at he2; subst he2; have hw2 := hw1.trans (hq2.mono hw1.size); obtain ⟨a200, a201, a202, a203, a204, a205⟩ := cl6 hq2 a100 a101 a102 a103 a104 a105; have hl2g0 := blt a200; obtain ⟨a210, a211, a212, a213, a214, a215⟩ := cl6 hq2 a110 a111 a112 a113 a114 a115; have hl2g1 := blt a210) | (go_at_call 94; refine (HNo.out _ hw2).mono ?_; rintro e w_3 ⟨he3, hq3⟩; rw [G7.out] at he3; subst he3; have hw3 := hw2.trans (hq3.mono hw2.size); obtain ⟨a300, a301, a302, a303, a304, a305⟩ := cl6 hq3 a200 a201 a202 a203 a204 a205; have hl3g0 := blt a300; obtain ⟨a310, a311, a312, a313, a314, a315⟩ := cl6 hq3 a210 a211 a212 a213 a214 a215; have hl3g1 := blt a310))
            go_roundw
            case rel => exact ⟨false, k + 1, rfl, by go_num, by omega, HZ, hw3⟩
            case measure => simp [intOf]; omega
          | false =>
           have G7 := Lh hc7; clear hc7
           cases hc8 : Sh.expr.ev Nd.right q with
           | true =>
            have G8 := Lh hc8; clear hc8; have HZ := Lh (show paramsB Nd.right false (l.take m) = paramsB Nd.right true ((l.take m).drop (k + 1)) from hR.out.trans (by rw [PS3.out q h1' G2.out G3.out HQ.out G7.out, G8.out]; rfl)); clear h1' h4' h5'
            go_wp2_with (first | (go_at_call 92; refine (HNm.out _ hbq).mono ?_; rintro e w_1 ⟨he1, hq1⟩; rw [G2.out] at he1; subst he1; have hw1 := hbq.trans (hq1.mono hbq.size); obtain ⟨a100, a101, a102, a103, a104, a105⟩ := cl6 hq1 z0 z1 z2 z3 z4 z5; have hl1g0 := blt a100; obtain ⟨a110, a111, a112, a113, a114, a115⟩ := cl6 hq1 k0 k1 k2 k3 k4 k5; have hl1g1 := blt a110) | (go_at_call 34; refine (HBa.out _ hw1).mono ?_; rintro e w_2 ⟨he2, hq2⟩; rw [G3.out] at he2; subst he2; have hw2 := hw1.trans (hq2.mono hw1.size); obtain ⟨a200, a201, a202, a203, a204, a205⟩ := cl6 hq2 a100 a101 a102 a103 a104 a105; have hl2g0 := blt a200; obtain ⟨a210, a211, a212, a213, a214, a215⟩ := cl6 hq2 a110 a111 a112 a113 a114 a115; have hl2g1 := blt a210) | (go_at_call 94; refine (HNo.out _ hw2).mono ?_; rintro e w_3 ⟨he3, hq3⟩; rw [G7.out] at he3; subst he3; have hw3 := hw2.trans (hq3.mono hw2.size); obtain ⟨a300, a301, a302, a303, a304, a305⟩ := cl6 hq3 a200 a201 a202 a203 a204 a205; have hl3g0 := blt a300; obtain ⟨a310, a311, a312, a313, a314, a315⟩ := cl6 hq3 a210 a211 a212 a213 a214 a215; have hl3g1 := blt a310) | (go_at_call 91; refine (HEx.out _ hw3).mono ?_; rintro e w_4 ⟨he4, hq4⟩; rw [G8.out] at he4; subst he4; have hw4 := hw3.trans (hq4.mono hw3.size); obtain ⟨a400, a401, a402, a403, a404, a405⟩ := cl6 hq4 a300 a301 a302 a303 a304 a305; have hl4g0 := blt a400; obtain ⟨a410, a411, a412, a413, a414, a415⟩ := cl6 hq4 a310 a311 a312 a313 a314 a315; have hl4g1 := blt a410))
            go_roundw
            case rel => exact ⟨true, k + 1, rfl, by go_num, by omega, HZ, hw4⟩
            case measure => simp [intOf]; omega
           | false =>
            have G8 := Lh hc8; clear hc8; have HF := Lh (show defL l = false by rw [HV1.out, hR.out, PS3.out q h1' G2.out G3.out HQ.out G7.out, G8.out, Bool.false_and]); clear h1' h4' h5'
            go_wp2_with (first | (go_at_call 92; refine (HNm.out _ hbq).mono ?_; rintro e w_1 ⟨he1, hq1⟩; rw [G2.out] at he1; subst he1; have hw1 := hbq.trans (hq1.mono hbq.size); obtain ⟨a100, a101, a102, a103, a104, a105⟩ := cl6 hq1 z0 z1 z2 z3 z4 z5; have hl1g0 := blt a100; obtain ⟨a110, a111, a112, a113, a114, a115⟩ := cl6 hq1 k0 k1 k2 k3 k4 k5; have hl1g1 := blt a110) | (go_at_call 34; refine (HBa.out _ hw1).mono ?_; rintro e w_2 ⟨he2, hq2⟩; rw [G3.out] at he2; subst he2; have hw2 := hw1.trans (hq2.mono hw1.size); obtain ⟨a200, a201, a202, a203, a204, a205⟩ := cl6 hq2 a100 a101 a102 a103 a104 a105; have hl2g0 := blt a200; obtain ⟨a210, a211, a212, a213, a214, a215⟩ := cl6 hq2 a110 a111 a112 a113 a114 a115; have hl2g1 := blt a210) | (go_at_call 94; refine (HNo.out _ hw2).mono ?_; rintro e w_3 ⟨he3, hq3⟩; rw [G7.out] at he3; subst he3; have hw3 := hw2.trans (hq3.mono hw2.size); obtain ⟨a300, a301, a302, a303, a304, a305⟩ := cl6 hq3 a200 a201 a202 a203 a204 a205; have hl3g0 := blt a300; obtain ⟨a310, a311, a312, a313, a314, a315⟩ := cl6 hq3 a210 a211 a212 a213 a214 a215; have hl3g1 := blt a310) | (go_at_call 91; refine (HEx.out _ hw3).mono ?_; rintro e w_4 ⟨he4, hq4⟩; rw [G8.out] at he4; subst he4; have hw4 := hw3.trans (hq4.mono hw3.size); obtain ⟨a400, a401, a402, a403, a404, a405⟩ := cl6 hq4 a300 a301 a302 a303 a304 a305; have hl4g0 := blt a400; obtain ⟨a410, a411, a412, a413, a414, a415⟩ := cl6 hq4 a310 a311 a312 a313 a314 a315; have hl4g1 := blt a410))
            go_ret; exact ⟨by rw [HF.out]; rfl, hw4⟩
       | false =>
        have G3 := Lh hc3; clear hc3; have HF := Lh (show defL l = false by rw [HV1.out, hR.out, PS4.out (.inr (.inr (.inl G3.out)))]); clear h1'; exact lv109
      | false =>
       have G2 := Lh hc2; clear hc2; have HF := Lh (show defL l = false by rw [HV1.out, hR.out, PS4.out (.inr (.inl G2.out))]); clear h1'; go_wp2_with (first | (go_at_call 92; refine (HNm.out _ hbq).mono ?_; rintro e w_1 ⟨he1, hq1⟩; rw [G2.out] at he1; subst he1; have hw1 := hbq.trans (hq1.mono hbq.size); obtain ⟨a100, a101, a102, a103, a104, a105⟩ := cl6 hq1 z0 z1 z2 z3 z4 z5; have hl1g0 := blt a100)); go_ret; exact ⟨by rw [HF.out]; rfl, hw1⟩
     ·have g1 : (p.kind == 19) = false := by simp [h1']
      have ek : (p.kind == 19) = false := by simpa using h1'
      have ek' : (p.kind != 19) = true := by simp [h1']
      have HF := Lh (show defL l = false by rw [HV1.out, hR.out, PS4.out (.inl h1')]); clear h1'; go_wp2_with fail; go_ret; exact ⟨by rw [HF.out]; rfl, hbq⟩
    ·have o1 : decide ((k : Int) + 1 < (m : Int) + 1) = false := dFo; have o2 : decide (k < m) = false := dFa hkl; have hR2 := hR.out; rw [List.drop_eq_nil_of_le lq21, paramsB] at hR2; have HR2 := Lh hR2; clear hR2; go_wp2_with fail; go_ret; exact ⟨by rw [HV1.out, HR2.out]; rfl, hbr⟩
def EOk (D : Nat) (w0 : World) (X dep : Nat) : Prop := ∀ t, Ex t → t.depth ≤ D → t.weight ≤ 1000000 → FSays 81 w0 X dep Nd.txt t
theorem run_expr (args : Array Value) (W : World) : (callFunc 81 args).run Tryz.prog W = .ok (.enter 81 args) W := run_call _ _ Tryz.func81 lq27 lq27 args W
theorem wBetween_ok (op sh : ByteArray) (l : List Nd) (n : Nat) (K : Option Addr) (d : Nat) (w0 : World) (X dep : Nat) (l0 : List UInt8) (w : World) (hn : l.length = n) (hl : KidsAt w0 l K 0) (hf : ∀ t ∈ l, FSays 81 w0 X dep Nd.txt t) (hnd : n ≤ d) (hd : d ≤ maxLen) (hBs : Below w0.heap.size w0 w) (hW : WrT w0.heap.size X dep l0 w) (hlen : l0.length + (op.data.toList ++ sepL com (l.map Nd.txt) ++ sh.data.toList).length ≤ 1000000000000) :
  Calls Tryz.prog 143 #[.pointer (some ⟨X, 0, none⟩), .string op, .slice K n d, .string sh] w (fun e w' => e = .returned (.tuple #[]) ∧ WrT w0.heap.size X dep (l0 ++ (op.data.toList ++ sepL com (l.map Nd.txt) ++ sh.data.toList)) w' ∧ WK w0.heap.size X w w') := by
 have HLN := Lh hlen
 have HL := Lh hl
 have HN := Lh hn
 have HF := Lh hf
 clear hl hn hf hlen
 have hB0 : w0.heap.size ≤ w.heap.size := hBs.size
 have hK0 : WK w0.heap.size X w w := WK.refl _ _ _
 have hlX := WrT.lt hW
 go_enter Tryz.func143, Tryz.ntmps143
 go_wp2_with fail
 have hWa := hW.alloc (.cells #[.string op] 9)
 have hKa := hK0.alloc (Nat.le_trans hB0 hK0.b.size) (.cells #[.string op] 9)
 have hbxa : True := trivial
 go_at_call 84
 refine (wSayT_ok w0.heap.size X dep _ (op.data.toList) [op] 1 _ _ hWa rfl (WrT.lt hW) (heap_alloc_new _ _) lq30 lq28 lq13 (Nat.le_trans hB0 hKa.b.size)).mono ?_
 rintro e w_1 ⟨rfl, hW_1, hk_1⟩
 have hK_1 := hKa.trans hk_1
 have hB_1 : Below w0.heap.size w0 w_1 := hBs.trans hK_1.b
 have hlX := WrT.lt hW_1
 go_wp2_with fail
 have hI := wList_ok 81 run_expr w0 X dep Nd.txt _ l n K d w_1 HN.out HL.out HF.out hnd hd hB_1 hW_1 lq13
 go_at_call 85
 refine hI.mono ?_
 rintro e w_2 ⟨rfl, hW_2, hk_2⟩
 have hK_2 := hK_1.trans hk_2
 clear hI
 have hB_2 : Below w0.heap.size w0 w_2 := hBs.trans hK_2.b
 have hlX := WrT.lt hW_2
 go_wp2_with fail
 have hWa := hW_2.alloc (.cells #[.string sh] 9)
 have hKa := hK_2.alloc (Nat.le_trans hB0 hK_2.b.size) (.cells #[.string sh] 9)
 have hbxa : True := trivial
 go_at_call 84
 refine (wSayT_ok w0.heap.size X dep _ (sh.data.toList) [sh] 1 _ _ hWa rfl (WrT.lt hW_2) (heap_alloc_new _ _) lq30 lq28 lq13 (Nat.le_trans hB0 hKa.b.size)).mono ?_
 rintro e w_3 ⟨rfl, hW_3, hk_3⟩
 have hK_3 := hKa.trans hk_3
 have hB_3 : Below w0.heap.size w0 w_3 := hBs.trans hK_3.b
 have hlX := WrT.lt hW_3
 go_wp2_with fail
 go_end0
 exact ⟨rfl, hW_3.eq (by simp only [List.append_assoc]), hK_3⟩
end
end Go.Proofs.YtjefhdlncikhmaaGreatDoor
