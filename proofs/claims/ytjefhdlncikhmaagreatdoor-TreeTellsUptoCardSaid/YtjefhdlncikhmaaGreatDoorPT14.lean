/- Joined by a program: Qn1, Q2, Num. -/
import Derived.Test.YtjefhdlncikhmaaGreatDoorPT13
namespace Go.Proofs.YtjefhdlncikhmaaGreatDoor
set_option linter.unusedVariables false
set_option linter.unusedSimpArgs false
set_option maxRecDepth 1000000
set_option maxHeartbeats 16000000
section
open Go.RowKit
open List (length_append length_cons length_nil length_singleton)
theorem rName_ok (s : ByteArray) (w : World) (hs : s.size ≤ 1099511627776) : Calls Tryz.prog 92 #[.string s] w fun e w' => e = .returned (.bool (nameB s.data.toList)) ∧ Below w.heap.size w w' := by
 have hsz : s.data.toList.length = s.size := by simp
 have HN := Lh (nameB_eq s.data.toList)
 have HW := Lh (fun W => refWord_ok s W)
 have HL := Lh hsz
 have HP := Lh (fun k c h => pre_take s.data.toList k c h)
 have HQ := Lh (fun k h => pre_le s.data.toList k h)
 generalize nameB s.data.toList = R at *
 have HTE := Lh (text_empty s)
 clear hsz
 go_enter Tryz.func92, Tryz.ntmps92
 go_wp2_with fail
 go_loopw [3] (fun iv wr => ∃ k : Nat, iv = .int .i64 k ∧ k ≤ s.size ∧ Hid (preB (s.data.toList.take k) = true) ∧ Below w.heap.size w wr) (fun iv _ => s.size - (intOf iv).toNat)
 case atStart => exact ⟨0, rfl, Nat.zero_le _, Lh rfl, Below.refl _ _⟩
 case round =>
  obtain ⟨k, rfl, hk, hR, hbr⟩ := hrel
  by_cases hkl : k < s.size
  ·have o1 : decide ((k : Int) < (s.size : Int)) = true := dTo; have o2 : decide (k < s.size) = true := dTr hkl; have hT1 := HP.out k s[k] (by rw [List.getElem?_eq_getElem (by rw [HL.out]; exact hkl)]; rfl); rw [hR.out, Bool.true_and] at hT1; obtain ⟨x, hx⟩ : ∃ x, s[k].toNat = x := ⟨_, rfl⟩; have hlet : isLet s[k] = ((decide (97 ≤ x) && decide (x ≤ 122)) || (decide (65 ≤ x) && decide (x ≤ 90)) || x == 95) := by rw [isLet, hx]
   have hdig : isDig s[k] = (decide (48 ≤ x) && decide (x ≤ 57)) := by rw [isDig, hx]
   have hwd : isWd s[k] = (isLet s[k] || isDig s[k]) := rfl; rw [hwd, hlet, hdig] at hT1; clear hlet hdig hwd; have HX := Lh hx; have HT1 := Lh hT1; clear hT1 hx
   by_cases h0 : k = 0
   ·have q0 : decide ((0 : Int) < (k : Int)) = false := dFo; have q1 : decide (0 < k) = false := dFo; rw [if_pos h0] at HT1; clear h0
    rcases (by omega : x < 48 ∨ (48 ≤ x ∧ x ≤ 57) ∨ (57 < x ∧ x < 65) ∨ (65 ≤ x ∧ x ≤ 90) ∨ (90 < x ∧ x < 95) ∨ x = 95 ∨ x = 96 ∨ (97 ≤ x ∧ x ≤ 122) ∨ 122 < x) with h | h | h | h | h | h | h | h | h
    ·exact lv46
    ·have hz : preB (s.data.toList.take (k + 1)) = false := by rw [HT1.out]; simp; omega
     have f0 : decide (97 ≤ (s[k].toNat : Int)) = false := dFa lq25; have f1 : decide ((s[k].toNat : Int) ≤ 122) = true := dTr lq25; have f2 : decide (65 ≤ (s[k].toNat : Int)) = false := dFa lq25; have f3 : decide ((s[k].toNat : Int) ≤ 90) = true := dTr lq25; have f4 : ((s[k].toNat : Int) == 95) = false := by rw [HX.out]; simp; omega
     have f5 : decide (48 ≤ (s[k].toNat : Int)) = true := dTr lq25; have f6 : decide ((s[k].toNat : Int) ≤ 57) = true := dTr lq25; have n0 : decide (97 ≤ s[k].toNat) = false := dFa lq25; have n1 : decide (s[k].toNat ≤ 122) = true := dTr lq25; have n2 : decide (65 ≤ s[k].toNat) = false := dFa lq25; have n3 : decide (s[k].toNat ≤ 90) = true := dTr lq25; have n4 : (s[k].toNat == 95) = false := by rw [HX.out]; simp; omega
     have n5 : decide (48 ≤ s[k].toNat) = true := dTr lq25; have n6 : decide (s[k].toNat ≤ 57) = true := dTr lq25; exact lv175
    ·exact lv47
    ·exact lv59
    ·exact lv48
    ·exact lv63
    ·exact lv48
    ·exact lv60
    ·exact lv49
   ·have q0 : decide ((0 : Int) < (k : Int)) = true := dTo; have q1 : decide (0 < k) = true := dTo; rw [if_neg h0] at HT1; clear h0
    rcases (by omega : x < 48 ∨ (48 ≤ x ∧ x ≤ 57) ∨ (57 < x ∧ x < 65) ∨ (65 ≤ x ∧ x ≤ 90) ∨ (90 < x ∧ x < 95) ∨ x = 95 ∨ x = 96 ∨ (97 ≤ x ∧ x ≤ 122) ∨ 122 < x) with h | h | h | h | h | h | h | h | h
    ·exact lv46
    ·have hz : preB (s.data.toList.take (k + 1)) = true := by rw [HT1.out]; simp; omega
     have f0 : decide (97 ≤ (s[k].toNat : Int)) = false := dFa lq25; have f1 : decide ((s[k].toNat : Int) ≤ 122) = true := dTr lq25; have f2 : decide (65 ≤ (s[k].toNat : Int)) = false := dFa lq25; have f3 : decide ((s[k].toNat : Int) ≤ 90) = true := dTr lq25; have f4 : ((s[k].toNat : Int) == 95) = false := by rw [HX.out]; simp; omega
     have f5 : decide (48 ≤ (s[k].toNat : Int)) = true := dTr lq25; have f6 : decide ((s[k].toNat : Int) ≤ 57) = true := dTr lq25; have n0 : decide (97 ≤ s[k].toNat) = false := dFa lq25; have n1 : decide (s[k].toNat ≤ 122) = true := dTr lq25; have n2 : decide (65 ≤ s[k].toNat) = false := dFa lq25; have n3 : decide (s[k].toNat ≤ 90) = true := dTr lq25; have n4 : (s[k].toNat == 95) = false := by rw [HX.out]; simp; omega
     have n5 : decide (48 ≤ s[k].toNat) = true := dTr lq25; have n6 : decide (s[k].toNat ≤ 57) = true := dTr lq25; clear h; go_wp2_with fail
     go_roundw
     case rel => exact ⟨k + 1, by go_num, by omega, Lh hz, hbr⟩
     case measure => simp [intOf]; omega
    ·exact lv47
    ·exact lv59
    ·exact lv48
    ·exact lv63
    ·exact lv48
    ·exact lv60
    ·exact lv49
  ·have o1 : decide ((k : Int) < (s.size : Int)) = false := dFo; have o2 : decide (k < s.size) = false := dFa hkl; have hR2 := hR.out; rw [List.take_of_length_le (by have := HL.out; omega)] at hR2; have hte : s.data.toList.isEmpty = s.toList.isEmpty := by rw [Lib.toList_data]
   have hN2 := HN.out; rw [hR2, Bool.and_true, hte] at hN2; have HN2 := Lh hN2; clear hR2 hte hN2
   by_cases hs0 : s.size = 0
   ·have e1 : s.toList.isEmpty = true := by rw [HTE.out, hs0]; rfl
    rw [e1] at HN2; go_wp2_with fail; go_ret; exact ⟨by rw [HN2.out]; rfl, hbr⟩
   ·have e1 : s.toList.isEmpty = false := by rw [HTE.out]; simpa using hs0
    rw [e1] at HN2; go_wp2_with (go_at_call 106; refine (HW.out _).mono ?_; rintro e w3 ⟨rfl, hb3⟩); go_ret; exact ⟨by rw [HN2.out]; rfl, hbr.trans (hb3.mono hbr.size)⟩
def RExprOk (D : Nat) : Prop := ∀ (T : Nd) (A : Option Addr) (c : Nat) (K : Option Addr) (d : Nat) (W : World), T.depth ≤ D → T.weight ≤ 1000000 → NodeAt W T A c K d →
 Calls Tryz.prog 91 #[ndV T A c K d] W fun e w' => e = .returned (.bool (Sh.expr.ev Nd.right T)) ∧ Below W.heap.size W w'
def WithinM (D : Nat) (l : List Nd) : Prop := ∀ t ∈ l, t.depth ≤ D ∧ t.weight ≤ 1000000
theorem wKM {D : Nat} {T : Nd} (hD : T.depth ≤ D + 1) (hW : T.weight ≤ 1000000) : WithinM D T.kids := fun t ht => by
 have h1 := Nd.depth_kid ht
 have h2 := Nd.weight_kid ht
 omega
theorem rowB_nil (l : List Nd) : rowB l [] = (l.length == 0) := by cases l <;> rfl
theorem rowB_one (l : List Nd) (p : Nd → Bool) : rowB l [p] = ((l.length == 1) && l.all p) := by
 match l with
 | [] => rfl
 | [a] => simp [rowB]
 | a :: b :: r => simp [rowB]
theorem rowB_two (l : List Nd) (p : Nd → Bool) : rowB l [p, p] = ((l.length == 2) && l.all p) := by
 match l with
 | [] => rfl
 | [a] => simp [rowB]
 | [a, b] => simp [rowB]
 | a :: b :: c :: r => simp [rowB]
theorem rowB_three (l : List Nd) (p : Nd → Bool) : rowB l [p, p, p] = ((l.length == 3) && l.all p) := by
 match l with
 | [] => rfl
 | [a] => simp [rowB]
 | [a, b] => simp [rowB]
 | [a, b, c] => simp [rowB]
 | a :: b :: c :: e :: r => simp [rowB]
section
variable {T : Nd} {k : Int} (hk : T.kind = k) {tx : Tx} {fm : Fm} (hf : formOf k = some (tx, fm)) (h32 : k ≠ 32)
include T k hk tx fm hf h32
theorem right_at : T.right = (tx.ev T.text && noNumB T && fm.ev Nd.right T) := by
 rw [right_eq, hk, hf]
 simp only [if_neg h32]
theorem ev_of : (Sh.of k).ev Nd.right T = (tx.ev T.text && noNumB T && fm.ev Nd.right T) := by
 rw [← right_at hk hf h32]
 simp [Sh.ev, hk]
end
theorem ev_of_not {T : Nd} {k : Int} (hk : ¬ T.kind = k) : (Sh.of k).ev Nd.right T = false := by simp [Sh.ev, hk]
theorem ev_target (T : Nd) : Sh.target.ev Nd.right T = (isTargetK T.kind && Sh.expr.ev Nd.right T) := by
 cases h : isTargetK T.kind with
 | false => simp [Sh.ev, h]
 | true =>
  have : T.kind = 31 ∨ T.kind = 53 ∨ T.kind = 54 := by
   simp only [isTargetK, Bool.or_eq_true, beq_iff_eq] at h
   omega
  rcases this with h' | h' | h' <;> simp [Sh.ev, h', isTargetK]
section
variable (D : Nat) (hE : RExprOk D)
include D hE
theorem rExprs_ok (l : List Nd) (n : Nat) (K : Option Addr) (d : Nat) (w : World) (hn : l.length = n) (hl : KidsAt w l K 0) (hWi : WithinM D l) (hnd : n ≤ d) (hd : d ≤ maxLen) :
  Calls Tryz.prog 152 #[.slice K n d] w fun e w' => e = .returned (.bool (l.all (Sh.expr.ev Nd.right))) ∧ Below w.heap.size w w' := by
 unfold maxLen at hd
 have HK := Lh hl
 have HNn := Lh hn
 have HW := Lh hWi
 have HE := Lh hE
 clear hl hn hWi hE
 go_enter Tryz.func152, Tryz.ntmps152
 go_wp2_with fail
 go_loopw [3] (fun iv wr => ∃ k : Nat, iv = .int .i64 k ∧ k ≤ n ∧ Hid ((l.take k).all (Sh.expr.ev Nd.right) = true) ∧ Below w.heap.size w wr) (fun iv _ => n - (intOf iv).toNat)
 case atStart => exact ⟨0, rfl, Nat.zero_le _, Lh rfl, Below.refl _ _⟩
 case round =>
  obtain ⟨k, rfl, hk, hR, hbr⟩ := hrel
  by_cases hkl : k < n
  ·have o1 : decide ((k : Int) < (n : Int)) = true := dTo; have o2 : decide (k < n) = true := dTr hkl; obtain ⟨t, ht⟩ : ∃ t, l[k]? = some t := ⟨_, List.getElem?_eq_getElem (by rw [HNn.out]; exact hkl)⟩; obtain ⟨b, off, A', c', K', d', hKe, hC, hNt⟩ := HK.out.kid ht; rw [Nat.zero_add] at hC; subst hKe; obtain ⟨n0, n1, n2, n3, n4, n5⟩ := hC.later hbr; obtain ⟨hd1, hw1⟩ := HW.out t (mog ht); have hI := HE.out t A' c' K' d' wr hd1 hw1 (hNt.later hbr); unfold ndV at hI; have HI := Lh hI; have HAT := Lh (all_take (p := Sh.expr.ev Nd.right) ht)
   have HAL := Lh (fun h => all_le (l := l) (p := Sh.expr.ev Nd.right) (k := k + 1) h); clear hI hC hNt ht hd1 hw1
   cases hp : Sh.expr.ev Nd.right t with
   | true =>
    rw [hp] at HI; have HZ := Lh (show (l.take (k + 1)).all (Sh.expr.ev Nd.right) = true by rw [HAT.out, hR.out, hp]; rfl); clear hp; go_wp2_with (go_at_call 91; refine HI.out.mono ?_; rintro e w3 ⟨rfl, hb3⟩); exact lv180
   | false =>
    rw [hp] at HI; have HZ := Lh (show l.all (Sh.expr.ev Nd.right) = false from HAL.out (by rw [HAT.out, hp, Bool.and_false])); clear hp; go_wp2_with (go_at_call 91; refine HI.out.mono ?_; rintro e w3 ⟨rfl, hb3⟩); go_ret; exact ⟨by rw [HZ.out]; rfl, hbr.trans (hb3.mono hbr.size)⟩
  ·have o1 : decide ((k : Int) < (n : Int)) = false := dFo; have o2 : decide (k < n) = false := dFa hkl; have hR2 := hR.out; rw [List.take_of_length_le (by have := HNn.out; omega)] at hR2; have HR2 := Lh hR2; clear hR2; go_wp2_with fail; go_ret; exact ⟨by rw [HR2.out]; rfl, hbr⟩
theorem rPair_ok (T : Nd) (A : Option Addr) (c : Nat) (K : Option Addr) (d : Nat) (w : World) (hD : T.depth ≤ D + 1) (hW : T.weight ≤ 1000000) (hN : NodeAt w T A c K d) :
  Calls Tryz.prog 154 #[ndV T A c K d] w fun e w' => e = .returned (.bool ((Sh.of 39).ev Nd.right T)) ∧ Below w.heap.size w w' := by
 have HBa := Lh (fun W (hb : Below w.heap.size w W) => by
  have := rBare_ok T A c K d W (hN.later hb); unfold ndV at this
  exact this)
 have HEx := Lh (fun W (hb : Below w.heap.size w W) => rExprs_ok D hE T.kids T.kids.length K d W rfl (hN.parts.2.2.2.2.2.2.2.2.2.later hb) (wKM hD hW) hN.parts.2.2.2.2.1 hN.parts.2.2.2.2.2.1)
 have HTE := Lh (text_empty T.text)
 have HEV := Lh (show (Sh.of 39).ev Nd.right T = ((T.kind == 39) && (T.text.size == 0) && noNumB T && (T.kids.length == 2) && T.kids.all (Sh.expr.ev Nd.right)) by
  by_cases hk : T.kind = 39
  ·rw [ev_of hk (tx := .non) (fm := .row [.expr, .expr]) rfl lq28]
   show (_ && _ && rowB T.kids [Sh.expr.ev Nd.right, Sh.expr.ev Nd.right]) = _
   rw [rowB_two]
   simp [hk, Tx.ev, Bool.and_assoc]
  ·rw [ev_of_not hk]; simp [hk])
 clear hE hD hW
 by_cases h0' : T.kind = 39
 ·have g0 : (T.kind == 39) = true := by simp [h0']
  have ek : (T.kind == 39) = true := by simpa using h0'
  have ek' : (T.kind != 39) = false := by simp [h0']
  by_cases h1' : T.text.size = 0
  ·have g1 : (T.text.size == 0) = true := by simp [h1']
   have et : T.text.toList.isEmpty = true := by rw [HTE.out, g1]
   cases hc2 : noNumB T with
   | true =>
    have G2 := Lh hc2; clear hc2
    by_cases h3' : T.kids.length = 2
    ·have g3 : (T.kids.length == 2) = true := by simp [h3']
     have el : ((T.kids.length : Int) == 2) = true := by rw [h3']; rfl
     cases hc4 : T.kids.all (Sh.expr.ev Nd.right) with
     | true =>
      have G4 := Lh hc4; clear hc4; have HV := Lh (show (Sh.of 39).ev Nd.right T = true by rw [HEV.out]; simp [g0, g1, G2.out, g3, G4.out]); exact lv86
     | false =>
      have G4 := Lh hc4; clear hc4; have HV := Lh (show (Sh.of 39).ev Nd.right T = false by rw [HEV.out]; simp [g0, g1, G2.out, g3, G4.out]); exact lv86
    ·have g3 : (T.kids.length == 2) = false := by simp [h3']
     have el : ((T.kids.length : Int) == 2) = false := bFo; have HV := Lh (show (Sh.of 39).ev Nd.right T = false by rw [HEV.out]; simp [g0, g1, G2.out, g3]); clear h0' h1' h3'; exact lv111
   | false =>
    have G2 := Lh hc2; clear hc2; have HV := Lh (show (Sh.of 39).ev Nd.right T = false by rw [HEV.out]; simp [g0, g1, G2.out]); clear h0' h1'; exact lv111
  ·have g1 : (T.text.size == 0) = false := by simp [h1']
   have et : T.text.toList.isEmpty = false := by rw [HTE.out, g1]
   have HV := Lh (show (Sh.of 39).ev Nd.right T = false by rw [HEV.out]; simp [g0, g1]); clear h0' h1'; exact lv148
 ·have g0 : (T.kind == 39) = false := by simp [h0']
  have ek : (T.kind == 39) = false := by simpa using h0'
  have ek' : (T.kind != 39) = true := by simp [h0']
  have HV := Lh (show (Sh.of 39).ev Nd.right T = false by rw [HEV.out]; simp [g0]); clear h0'; exact lv148
theorem rSpread_ok (T : Nd) (A : Option Addr) (c : Nat) (K : Option Addr) (d : Nat) (w : World) (hD : T.depth ≤ D + 1) (hW : T.weight ≤ 1000000) (hN : NodeAt w T A c K d) :
  Calls Tryz.prog 155 #[ndV T A c K d] w fun e w' => e = .returned (.bool ((Sh.of 40).ev Nd.right T)) ∧ Below w.heap.size w w' := by
 have HBa := Lh (fun W (hb : Below w.heap.size w W) => by
  have := rBare_ok T A c K d W (hN.later hb); unfold ndV at this
  exact this)
 have HEx := Lh (fun W (hb : Below w.heap.size w W) => rExprs_ok D hE T.kids T.kids.length K d W rfl (hN.parts.2.2.2.2.2.2.2.2.2.later hb) (wKM hD hW) hN.parts.2.2.2.2.1 hN.parts.2.2.2.2.2.1)
 have HTE := Lh (text_empty T.text)
 have HEV := Lh (show (Sh.of 40).ev Nd.right T = ((T.kind == 40) && (T.text.size == 0) && noNumB T && (T.kids.length == 1) && T.kids.all (Sh.expr.ev Nd.right)) by
  by_cases hk : T.kind = 40
  ·rw [ev_of hk (tx := .non) (fm := .row [.expr]) rfl lq28]
   show (_ && _ && rowB T.kids [Sh.expr.ev Nd.right]) = _
   rw [rowB_one]
   simp [hk, Tx.ev, Bool.and_assoc]
  ·rw [ev_of_not hk]; simp [hk])
 clear hE hD hW
 by_cases h0' : T.kind = 40
 ·have g0 : (T.kind == 40) = true := by simp [h0']
  have ek : (T.kind == 40) = true := by simpa using h0'
  have ek' : (T.kind != 40) = false := by simp [h0']
  by_cases h1' : T.text.size = 0
  ·have g1 : (T.text.size == 0) = true := by simp [h1']
   have et : T.text.toList.isEmpty = true := by rw [HTE.out, g1]
   cases hc2 : noNumB T with
   | true =>
    have G2 := Lh hc2; clear hc2
    by_cases h3' : T.kids.length = 1
    ·have g3 : (T.kids.length == 1) = true := by simp [h3']
     have el : ((T.kids.length : Int) == 1) = true := by rw [h3']; rfl
     cases hc4 : T.kids.all (Sh.expr.ev Nd.right) with
     | true =>
      have G4 := Lh hc4; clear hc4; have HV := Lh (show (Sh.of 40).ev Nd.right T = true by rw [HEV.out]; simp [g0, g1, G2.out, g3, G4.out]); exact lv87
     | false =>
      have G4 := Lh hc4; clear hc4; have HV := Lh (show (Sh.of 40).ev Nd.right T = false by rw [HEV.out]; simp [g0, g1, G2.out, g3, G4.out]); exact lv87
    ·have g3 : (T.kids.length == 1) = false := by simp [h3']
     have el : ((T.kids.length : Int) == 1) = false := bFo; have HV := Lh (show (Sh.of 40).ev Nd.right T = false by rw [HEV.out]; simp [g0, g1, G2.out, g3]); clear h0' h1' h3'; exact lv112
   | false =>
    have G2 := Lh hc2; clear hc2; have HV := Lh (show (Sh.of 40).ev Nd.right T = false by rw [HEV.out]; simp [g0, g1, G2.out]); clear h0' h1'; exact lv112
  ·have g1 : (T.text.size == 0) = false := by simp [h1']
   have et : T.text.toList.isEmpty = false := by rw [HTE.out, g1]
   have HV := Lh (show (Sh.of 40).ev Nd.right T = false by rw [HEV.out]; simp [g0, g1]); clear h0' h1'; exact lv149
 ·have g0 : (T.kind == 40) = false := by simp [h0']
  have ek : (T.kind == 40) = false := by simpa using h0'
  have ek' : (T.kind != 40) = true := by simp [h0']
  have HV := Lh (show (Sh.of 40).ev Nd.right T = false by rw [HEV.out]; simp [g0]); clear h0'; exact lv149
theorem rKeyword_ok (T : Nd) (A : Option Addr) (c : Nat) (K : Option Addr) (d : Nat) (w : World) (hD : T.depth ≤ D + 1) (hW : T.weight ≤ 1000000) (hN : NodeAt w T A c K d) :
  Calls Tryz.prog 196 #[ndV T A c K d] w fun e w' => e = .returned (.bool ((Sh.of 52).ev Nd.right T)) ∧ Below w.heap.size w w' := by
 have HBa := Lh (fun W (hb : Below w.heap.size w W) => by
  have := rBare_ok T A c K d W (hN.later hb); unfold ndV at this
  exact this)
 have HEx := Lh (fun W (hb : Below w.heap.size w W) => rExprs_ok D hE T.kids T.kids.length K d W rfl (hN.parts.2.2.2.2.2.2.2.2.2.later hb) (wKM hD hW) hN.parts.2.2.2.2.1 hN.parts.2.2.2.2.2.1)
 have HTE := Lh (text_empty T.text)
 have HNm := Lh (fun W (_ : Below w.heap.size w W) => rName_ok T.text W lq22)
 have HEV := Lh (show (Sh.of 52).ev Nd.right T = ((T.kind == 52) && nameB T.text.data.toList && noNumB T && (T.kids.length == 1) && T.kids.all (Sh.expr.ev Nd.right)) by
  by_cases hk : T.kind = 52
  ·rw [ev_of hk (tx := .name) (fm := .row [.expr]) rfl lq28]
   show (_ && _ && rowB T.kids [Sh.expr.ev Nd.right]) = _
   rw [rowB_one]
   simp [hk, Tx.ev, Bool.and_assoc]
  ·rw [ev_of_not hk]; simp [hk])
 clear hE hD hW
 by_cases h0' : T.kind = 52
 ·have g0 : (T.kind == 52) = true := by simp [h0']
  have ek : (T.kind == 52) = true := by simpa using h0'
  have ek' : (T.kind != 52) = false := by simp [h0']
  cases hc1 : nameB T.text.data.toList with
  | true =>
   have G1 := Lh hc1; clear hc1
   cases hc2 : noNumB T with
   | true =>
    have G2 := Lh hc2; clear hc2
    by_cases h3' : T.kids.length = 1
    ·have g3 : (T.kids.length == 1) = true := by simp [h3']
     have el : ((T.kids.length : Int) == 1) = true := by rw [h3']; rfl
     cases hc4 : T.kids.all (Sh.expr.ev Nd.right) with
     | true =>
      have G4 := Lh hc4; clear hc4; have HV := Lh (show (Sh.of 52).ev Nd.right T = true by rw [HEV.out]; simp [g0, G1.out, G2.out, g3, G4.out]); exact lv58
     | false =>
      have G4 := Lh hc4; clear hc4; have HV := Lh (show (Sh.of 52).ev Nd.right T = false by rw [HEV.out]; simp [g0, G1.out, G2.out, g3, G4.out]); exact lv58
    ·have g3 : (T.kids.length == 1) = false := by simp [h3']
     have el : ((T.kids.length : Int) == 1) = false := bFo; have HV := Lh (show (Sh.of 52).ev Nd.right T = false by rw [HEV.out]; simp [g0, G1.out, G2.out, g3]); clear h0' h3'; exact lv88
   | false =>
    have G2 := Lh hc2; clear hc2; have HV := Lh (show (Sh.of 52).ev Nd.right T = false by rw [HEV.out]; simp [g0, G1.out, G2.out]); clear h0'; exact lv88
  | false =>
   have G1 := Lh hc1; clear hc1; have HV := Lh (show (Sh.of 52).ev Nd.right T = false by rw [HEV.out]; simp [g0, G1.out]); clear h0'; obtain ⟨hm1, hm2, hrm, hw32, hk1, hk2, ⟨hk64a, hk64b⟩, ⟨ha64a, ha64b⟩, hts, hKs, HK⟩ := hN.hd; obtain ⟨hb1, c0, c1, c2, c3, c4, c5⟩ := bxn w T A c K d; unfold ndV; clear hKs hN; go_enter Tryz.func196, Tryz.ntmps196
   go_wp2_with (first | (go_at_call 92; refine (HNm.out _ hb1).mono ?_; rintro e w_1 ⟨he1, hq1⟩; rw [G1.out] at he1; subst he1; have hw1 := hb1.trans (hq1.mono hb1.size); obtain ⟨a1_0, a1_1, a1_2, a1_3, a1_4, a1_5⟩ := cl6 hq1 c0 c1 c2 c3 c4 c5; have hl1 := blt a1_0)); go_ret; exact ⟨by rw [HV.out]; rfl, hw1⟩
 ·have g0 : (T.kind == 52) = false := by simp [h0']
  have ek : (T.kind == 52) = false := by simpa using h0'
  have ek' : (T.kind != 52) = true := by simp [h0']
  have HV := Lh (show (Sh.of 52).ev Nd.right T = false by rw [HEV.out]; simp [g0]); clear h0'; obtain ⟨hm1, hm2, hrm, hw32, hk1, hk2, ⟨hk64a, hk64b⟩, ⟨ha64a, ha64b⟩, hts, hKs, HK⟩ := hN.hd; obtain ⟨hb1, c0, c1, c2, c3, c4, c5⟩ := bxn w T A c K d; unfold ndV; clear hKs hN; go_enter Tryz.func196, Tryz.ntmps196; go_wp2_with fail; go_ret; exact ⟨by rw [HV.out]; rfl, hb1⟩
end
def RTargetOk (D : Nat) : Prop := ∀ (T : Nd) (A : Option Addr) (c : Nat) (K : Option Addr) (d : Nat) (W : World), T.depth ≤ D → T.weight ≤ 1000000 → NodeAt W T A c K d →
 Calls Tryz.prog 90 #[ndV T A c K d] W fun e w' => e = .returned (.bool (Sh.target.ev Nd.right T)) ∧ Below W.heap.size W w'
theorem rTarget_ok (D : Nat) (hE : RExprOk D) : RTargetOk D := by
 intro T A c K d w hD hW hN
 have HE := Lh (fun W (hb : Below w.heap.size w W) => by
  have := hE T A c K d W hD hW (hN.later hb); unfold ndV at this
  exact this)
 have HEV := Lh (ev_target T)
 clear hE hD hW
 by_cases h' : T.kind = 31
 ·have e1 : (T.kind == 31) = true := by simpa using h'
  have HV := Lh (show isTargetK T.kind = true by simp [isTargetK, e1]); exact lv130
 ·have e1 : (T.kind == 31) = false := by simpa using h'
  clear h'
  by_cases h' : T.kind = 53
  ·have e2 : (T.kind == 53) = true := by simpa using h'
   have HV := Lh (show isTargetK T.kind = true by simp [isTargetK, e1, e2]); exact lv130
  ·have e2 : (T.kind == 53) = false := by simpa using h'
   clear h'
   by_cases h' : T.kind = 54
   ·have e3 : (T.kind == 54) = true := by simpa using h'
    have HV := Lh (show isTargetK T.kind = true by simp [isTargetK, e1, e2, e3]); exact lv130
   ·have e3 : (T.kind == 54) = false := by simpa using h'
    have HV := Lh (show isTargetK T.kind = false by simp [isTargetK, e1, e2, e3]); clear h'; obtain ⟨hm1, hm2, hrm, hw32, hk1, hk2, ⟨hk64a, hk64b⟩, ⟨ha64a, ha64b⟩, hts, hKs, HK⟩ := hN.hd; obtain ⟨hb1, c0, c1, c2, c3, c4, c5⟩ := bxn w T A c K d; unfold ndV; clear hKs hN; go_enter Tryz.func90, Tryz.ntmps90; go_wp2_with fail; go_ret; exact ⟨by rw [HEV.out, HV.out]; rfl, hb1⟩
theorem rSome_ok (D : Nat) (hE : RExprOk D) (T : Nd) (A : Option Addr) (c : Nat) (K : Option Addr) (d : Nat) (w : World) (hD : T.depth ≤ D + 1) (hW : T.weight ≤ 1000000) (hN : NodeAt w T A c K d) :
  Calls Tryz.prog 96 #[ndV T A c K d] w fun e w' => e = .returned (.bool ((Sh.of 23).ev Nd.right T)) ∧ Below w.heap.size w w' := by
 have HBa := Lh (fun W (hb : Below w.heap.size w W) => by
  have := rBare_ok T A c K d W (hN.later hb); unfold ndV at this
  exact this)
 have HTE := Lh (text_empty T.text)
 have HTg := Lh (rTarget_ok D hE)
 have HWi := Lh (wKM hD hW)
 have HEV := Lh (show (Sh.of 23).ev Nd.right T = (((T.kind == 23) && (T.text.size == 0) && noNumB T && decide (2 ≤ T.kids.length)) && T.kids.all (Sh.target.ev Nd.right)) by
  by_cases hk : T.kind = 23
  ·rw [ev_of hk (tx := .non) (fm := .some 2 .target) rfl lq28]; simp only [hk, Tx.ev, Fm.ev]
   simp [Bool.and_assoc]
  ·rw [ev_of_not hk]; simp [hk])
 clear hE hD hW
 by_cases h0' : T.kind = 23
 ·have g0 : (T.kind == 23) = true := by simp [h0']
  have ek : (T.kind == 23) = true := by simpa using h0'
  have ek' : (T.kind != 23) = false := by simp [h0']
  by_cases h1' : T.text.size = 0
  ·have g1 : (T.text.size == 0) = true := by simp [h1']
   have et : T.text.toList.isEmpty = true := by rw [HTE.out, g1]
   cases hc2 : noNumB T with
   | true =>
    have G2 := Lh hc2; clear hc2
    by_cases h3' : 2 ≤ T.kids.length
    ·have g3 : decide (2 ≤ T.kids.length) = true := by simp [h3']
     have el : decide ((T.kids.length : Int) < 2) = false := dFo; have el' : decide (T.kids.length < 2) = false := dFo; have HV1 := Lh (show ((T.kind == 23) && (T.text.size == 0) && noNumB T && decide (2 ≤ T.kids.length)) = true by simp [g0, g1, G2.out, g3]); clear h0' h1' h3'; obtain ⟨hm1, hm2, hrm, hw32, hk1, hk2, ⟨hk64a, hk64b⟩, ⟨ha64a, ha64b⟩, hts, hKs, HK⟩ := hN.hd; obtain ⟨hb1, c0, c1, c2, c3, c4, c5⟩ := bxn w T A c K d; unfold ndV; clear hKs hN; go_enter Tryz.func96, Tryz.ntmps96
     go_wp2_with (first | (go_at_call 34; refine (HBa.out _ hb1).mono ?_; rintro e w_1 ⟨he1, hq1⟩; rw [G2.out] at he1; subst he1; have hw1 := hb1.trans (hq1.mono hb1.size); obtain ⟨a1_0, a1_1, a1_2, a1_3, a1_4, a1_5⟩ := cl6 hq1 c0 c1 c2 c3 c4 c5; have hl1 := blt a1_0)); have HW0 := Lh hw1
     go_loopw [3] (fun iv wr => ∃ k : Nat, iv = .int .i64 k ∧ k ≤ T.kids.length ∧ Hid ((T.kids.take k).all (Sh.target.ev Nd.right) = true) ∧ Below w_1.heap.size w_1 wr) (fun iv _ => T.kids.length - (intOf iv).toNat)
     case atStart => exact ⟨0, rfl, Nat.zero_le _, Lh rfl, Below.refl _ _⟩
     case round =>
      obtain ⟨k, rfl, hk, hR, hbr⟩ := hrel; have hbw := HW0.out.trans (hbr.mono HW0.out.size); have d5 := cLt hbr a1_5; have hlw := blt d5
      by_cases hkl : k < T.kids.length
      ·have o1 : decide ((k : Int) < (T.kids.length : Int)) = true := dTo; have o2 : decide (k < T.kids.length) = true := dTr hkl; obtain ⟨t, ht⟩ : ∃ t, T.kids[k]? = some t := ⟨_, List.getElem?_eq_getElem hkl⟩; obtain ⟨b, off, A', c', K', d', hKe, hC, hNt⟩ := HK.out k t ht; subst hKe; obtain ⟨n0, n1, n2, n3, n4, n5⟩ := hC.later hbw; obtain ⟨hd1, hw1⟩ := HWi.out t (mog ht); have hI := HTg.out t A' c' K' d' wr hd1 hw1 (hNt.later hbw); unfold ndV at hI; have HI := Lh hI; have HAT := Lh (all_take (p := Sh.target.ev Nd.right) ht)
       have HAL := Lh (fun h => all_le (l := T.kids) (p := Sh.target.ev Nd.right) (k := k + 1) h); clear hI hC hNt ht hd1 hw1
       cases hp : Sh.target.ev Nd.right t with
       | true =>
        rw [hp] at HI; have HZ := Lh (show (T.kids.take (k + 1)).all (Sh.target.ev Nd.right) = true by rw [HAT.out, hR.out, hp]; rfl); clear hp; go_wp2_with (go_at_call 90; refine HI.out.mono ?_; rintro e w3 ⟨rfl, hb3⟩); exact lv180
       | false =>
        rw [hp] at HI; have HZ := Lh (show T.kids.all (Sh.target.ev Nd.right) = false from HAL.out (by rw [HAT.out, hp, Bool.and_false])); clear hp; go_wp2_with (go_at_call 90; refine HI.out.mono ?_; rintro e w3 ⟨rfl, hb3⟩); go_ret; exact ⟨by rw [HEV.out, HV1.out, HZ.out]; rfl, hbw.trans (hb3.mono hbw.size)⟩
      ·exact lv147
    ·have g3 : decide (2 ≤ T.kids.length) = false := by simp [h3']
     have el : decide ((T.kids.length : Int) < 2) = true := dTo; have el' : decide (T.kids.length < 2) = true := dTo; have HV := Lh (show (Sh.of 23).ev Nd.right T = false by rw [HEV.out]; simp [g0, g1, G2.out, g3]); clear h0' h1' h3'; exact lv113
   | false =>
    have G2 := Lh hc2; clear hc2; have HV := Lh (show (Sh.of 23).ev Nd.right T = false by rw [HEV.out]; simp [g0, g1, G2.out]); clear h0' h1'; exact lv113
  ·have g1 : (T.text.size == 0) = false := by simp [h1']
   have et : T.text.toList.isEmpty = false := by rw [HTE.out, g1]
   have HV := Lh (show (Sh.of 23).ev Nd.right T = false by rw [HEV.out]; simp [g0, g1]); clear h0' h1'; exact lv152
 ·have g0 : (T.kind == 23) = false := by simp [h0']
  have ek : (T.kind == 23) = false := by simpa using h0'
  have ek' : (T.kind != 23) = true := by simp [h0']
  have HV := Lh (show (Sh.of 23).ev Nd.right T = false by rw [HEV.out]; simp [g0]); clear h0'; exact lv152
theorem ev_targets (T : Nd) : Sh.targets.ev Nd.right T = if T.kind = 23 then (Sh.of 23).ev Nd.right T else Sh.target.ev Nd.right T := by
 by_cases hk : T.kind = 23
 ·simp [Sh.ev, hk, isTargetK]
 ·simp [Sh.ev, hk]
theorem rTargets_ok (D : Nat) (hE : RExprOk D) (T : Nd) (A : Option Addr) (c : Nat) (K : Option Addr) (d : Nat) (w : World) (hD : T.depth ≤ D) (hW : T.weight ≤ 1000000) (hN : NodeAt w T A c K d) :
  Calls Tryz.prog 97 #[ndV T A c K d] w fun e w' => e = .returned (.bool (Sh.targets.ev Nd.right T)) ∧ Below w.heap.size w w' := by
 have HTg := Lh (fun W (hb : Below w.heap.size w W) => by
  have := rTarget_ok D hE T A c K d W hD hW (hN.later hb); unfold ndV at this
  exact this)
 have HSm := Lh (fun W (hb : Below w.heap.size w W) => by
  have := rSome_ok D hE T A c K d W lq29 hW (hN.later hb); unfold ndV at this
  exact this)
 have HEV := Lh (ev_targets T)
 clear hE hD hW
 by_cases hk : T.kind = 23
 ·have e1 : (T.kind != 23) = false := by simp [hk]
  have HV := Lh (show Sh.targets.ev Nd.right T = (Sh.of 23).ev Nd.right T by rw [HEV.out, if_pos hk]); clear hk; obtain ⟨hm1, hm2, hrm, hw32, hk1, hk2, ⟨hk64a, hk64b⟩, ⟨ha64a, ha64b⟩, hts, hKs, HK⟩ := hN.hd; obtain ⟨hb1, c0, c1, c2, c3, c4, c5⟩ := bxn w T A c K d; unfold ndV; clear hKs hN; go_enter Tryz.func97, Tryz.ntmps97; go_wp2_with (go_at_call 96; refine (HSm.out _ hb1).mono ?_; rintro e w3 ⟨rfl, hb3⟩); go_ret; exact ⟨by rw [HV.out]; rfl, hb1.trans (hb3.mono hb1.size)⟩
 ·have e1 : (T.kind != 23) = true := by simp [hk]
  have HV := Lh (show Sh.targets.ev Nd.right T = Sh.target.ev Nd.right T by rw [HEV.out, if_neg hk]); clear hk; obtain ⟨hm1, hm2, hrm, hw32, hk1, hk2, ⟨hk64a, hk64b⟩, ⟨ha64a, ha64b⟩, hts, hKs, HK⟩ := hN.hd; obtain ⟨hb1, c0, c1, c2, c3, c4, c5⟩ := bxn w T A c K d; unfold ndV; clear hKs hN; go_enter Tryz.func97, Tryz.ntmps97; go_wp2_with (go_at_call 90; refine (HTg.out _ hb1).mono ?_; rintro e w3 ⟨rfl, hb3⟩); go_ret; exact ⟨by rw [HV.out]; rfl, hb1.trans (hb3.mono hb1.size)⟩
def numL (neg : Bool) (zs : List Int) : Bool := !neg && decide (zs.length ≤ 256) && !(zs.getLast? == some 0)
theorem tNumber_ok (neg : Bool) (A : Option Addr) (c : Nat) (zs : List Int) (w : World) (hr : RdI w .u32 A zs) (hl : zs.length ≤ c) (hc : c ≤ maxLen) :
  Calls Tryz.prog 45 #[.agg #[.bool neg, .slice A zs.length c]] w fun e w' => e = .returned (.bool (numL neg zs)) ∧ Below w.heap.size w w' := by
 unfold maxLen at hc
 have hb1 : ∀ o, Below w.heap.size w (w.alloc o) := fun o => (Below.refl w.heap.size w).alloc (Nat.le_refl _) o
 cases neg with
 | true =>
  clear hr; go_enter Tryz.func45, Tryz.ntmps45; go_wp2_with fail; go_ret; exact ⟨rfl, hb1 _⟩
 | false =>
  by_cases h256 : zs.length ≤ 256
  ·have e1 : decide ((zs.length : Int) ≤ 256) = true := dTo; have e2 : decide (zs.length ≤ 256) = true := dTr h256
   cases hz : zs with
   | nil =>
    clear hr; go_enter Tryz.func45, Tryz.ntmps45; go_wp2_with fail; go_ret; exact ⟨rfl, hb1 _⟩
   | cons a r =>
    obtain ⟨m, hm⟩ : ∃ m, zs.length = m + 1 := ⟨r.length, by rw [hz]; rfl⟩; obtain ⟨b, off, z, hA, hzm, hcm⟩ := hr m lq29; have hlast : zs.getLast? = some z := by rw [List.getLast?_eq_getElem?, hm]; exact hzm
    rw [← hz]; have HLast := Lh hlast; have HE2 := Lh e2; rw [hm] at hl e1; rw [hm]; subst hA; have hblt := blt hcm; have hcm2 := fun o => cLt (hb1 o) hcm
    have hcm3 := hcm2 (.cells #[.bool false, .slice (some ⟨b, off, none⟩) (m + 1) c] 24); have o1 : ((m + 1 : Nat) : Int) - 1 = (m : Int) := by omega
    have o2 : (m : Int) + 1 - 1 = (m : Int) := by omega
    have o3 : (((m + 1 : Nat) : Int) == 0) = false := beq0F lq29; have o4 : (0 : Int) ≤ (m : Int) := by omega
    have o5 : (m : Int) < ((m + 1 : Nat) : Int) := by omega
    have o6 : ((m : Int) + 1 == 0) = false := by simp; omega
    have o7 : decide ((m : Int) + 1 ≤ 256) = true := dTo; have o8 : decide (m + 1 ≤ 256) = true := dTo; clear hz hlast hr hcm hcm2 hzm e2 hm h256
    by_cases hz0 : z = 0
    ·have z1 : (z == 0) = true := by simpa using hz0
     have z2 : (z != 0) = false := by simp [hz0]
     clear hz0; go_enter Tryz.func45, Tryz.ntmps45; go_wp2_with fail; go_ret; exact ⟨by show Ending.returned (.bool _) = _; simp [numL, HLast.out, HE2.out, z1], hb1 _⟩
    ·have z1 : (z == 0) = false := by simpa using hz0
     have z2 : (z != 0) = true := by simp [hz0]
     clear hz0; go_enter Tryz.func45, Tryz.ntmps45; go_wp2_with fail; go_ret; exact ⟨by show Ending.returned (.bool _) = _; simp [numL, HLast.out, HE2.out, z1], hb1 _⟩
  ·have e1 : decide ((zs.length : Int) ≤ 256) = false := dFo; have e2 : decide (zs.length ≤ 256) = false := dFa h256; clear hr; go_enter Tryz.func45, Tryz.ntmps45; go_wp2_with fail; go_ret; exact ⟨by show Ending.returned (.bool _) = _; simp [numL, e2], hb1 _⟩
end
end Go.Proofs.YtjefhdlncikhmaaGreatDoor
