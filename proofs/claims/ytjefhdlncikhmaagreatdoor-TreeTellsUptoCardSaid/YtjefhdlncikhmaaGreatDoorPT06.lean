/- Joined by a program: Shp6, Lx2, Txt, RefHex, RefAll. -/
import Derived.Test.YtjefhdlncikhmaaGreatDoorPT05
namespace Go.Proofs.YtjefhdlncikhmaaGreatDoor
set_option linter.unusedVariables false
set_option linter.unusedSimpArgs false
set_option maxRecDepth 1000000
set_option maxHeartbeats 16000000
section
open Go.RowKit
open List (length_append length_cons length_nil length_singleton)
theorem each1_ok (D : Nat) (v : Value) (p : Nd → Bool) (X : Nat) (w : World) (hS : ShapeOk D w v p) (hX : w.cell? ⟨X, 0, none⟩ = some v) (T : Nd) (A : Option Addr) (c : Nat) (K : Option Addr) (d : Nat) (hD : T.depth ≤ D) (hW : T.weight ≤ 1048576) (hN : NodeAt w T A c K d) :
  Calls Tryz.prog 177 #[ndV T A c K d, .pointer (some ⟨X, 0, none⟩)] w fun e w' => e = .returned (.bool (!(p T))) ∧ Below w.heap.size w w' := by
 obtain ⟨f, caps, hv, hrn, hf⟩ := hS
 subst hv
 have hX2 := fun o => cLt ((Below.refl w.heap.size w).alloc (Nat.le_refl _) o) hX
 have hXl := World.block_lt_of_cell? w _ hX
 have hI := hf _ ((Below.refl w.heap.size w).alloc (Nat.le_refl _) (bx T.kind T A c K d)) T A c K d hD hW (hN.later ((Below.refl w.heap.size w).alloc (Nat.le_refl _) _))
 unfold ndV at hI
 have HI := Lh hI
 clear hI hf
 obtain ⟨hm1, hm2, hrm, hw32, hk1, hk2, ⟨hk64a, hk64b⟩, ⟨ha64a, ha64b⟩, hts, hKs, HK⟩ := hN.hd
 obtain ⟨hb1, c0, c1, c2, c3, c4, c5⟩ := bxn w T A c K d
 have c6 := hX2 (bx T.kind T A c K d)
 clear hX hX2
 unfold ndV
 clear hKs hN
 go_enter Tryz.func177, Tryz.ntmps177
 go_wp2_with (with_reducible refine HI.out.mono ?_; rintro e w3 ⟨rfl, hb3⟩)
 go_ret
 exact ⟨rfl, hb1.trans (hb3.mono hb1.size)⟩
theorem all_take {l : List Nd} {p : Nd → Bool} {k : Nat} {t : Nd} (h : l[k]? = some t) : (l.take (k + 1)).all p = ((l.take k).all p && p t) := by
 rw [List.take_succ_eq_append_getElem (List.getElem?_eq_some_iff.1 h).1, List.all_append]
 simp [(List.getElem?_eq_some_iff.1 h).2]
theorem all_le {l : List Nd} {p : Nd → Bool} {k : Nat} (h : (l.take k).all p = false) : l.all p = false := by
 cases hl : l.all p with
 | false => rfl
 | true =>
  rw [List.all_eq_true] at hl; have : (l.take k).all p = true := List.all_eq_true.2 fun t ht => hl t (List.mem_of_mem_take ht)
  rw [this] at h; exact h
section
variable (D : Nat) (v : Value) (p : Nd → Bool) (X : Nat) (l : List Nd) (n : Nat) (K : Option Addr) (d : Nat) (w : World) (hS : ShapeOk D w v p) (hX : w.cell? ⟨X, 0, none⟩ = some v) (hn : l.length = n) (hl : KidsAt w l K 0) (hWi : Within D l) (hnd : n ≤ d) (hd : d ≤ maxLen)
include D v p X l n K d w hS hX hn hl hWi hnd hd
theorem idxNode_ok :
  Calls Tryz.prog 205 #[.slice K n d, .func (.func 177) #[] #[.pointer (some ⟨X, 0, none⟩)]] w fun e w' => (∃ r : Int, e = .returned (.int .i64 r) ∧ ((0 ≤ r ∧ l.all p = false) ∨ (r = -1 ∧ l.all p = true))) ∧ Below w.heap.size w w' := by
 unfold maxLen at hd
 have HK := Lh hl
 have HNn := Lh hn
 have HW := Lh hWi
 have HN := Lh (fun W (hb : Below w.heap.size w W) T A c K d hD hW hN => each1_ok D v p X W (hS.later hb) (cLt hb hX) T A c K d hD hW hN)
 clear hl hn hWi hX hS
 go_enter Tryz.func205, Tryz.ntmps205
 go_wp2_with fail
 go_loopw [8] (fun iv wr => ∃ k : Nat, iv = .int .i64 k ∧ k ≤ n ∧ Hid ((l.take k).all p = true) ∧ Below w.heap.size w wr) (fun iv _ => n - (intOf iv).toNat)
 case atStart => exact ⟨0, rfl, Nat.zero_le _, Lh rfl, Below.refl _ _⟩
 case round =>
  obtain ⟨k, rfl, hk, hR, hbr⟩ := hrel
  by_cases hkl : k < n
  ·have o1 : decide ((k : Int) < (n : Int)) = true := dTo; have o2 : decide (k < n) = true := dTr hkl; obtain ⟨t, ht⟩ : ∃ t, l[k]? = some t := ⟨_, List.getElem?_eq_getElem (by rw [HNn.out]; exact hkl)⟩; obtain ⟨b, off, A', c', K', d', hK, hC, hNt⟩ := HK.out.kid ht; rw [Nat.zero_add] at hC; subst hK; obtain ⟨n0, n1, n2, n3, n4, n5⟩ := hC.later hbr; obtain ⟨hd1, hw1⟩ := HW.out t (mog ht); have hT1 := all_take (p := p) ht; have hI := HN.out wr hbr t A' c' K' d' hd1 hw1 (hNt.later hbr); unfold ndV at hI; have HI := Lh hI; have HT1 := Lh hT1; clear hI hT1 hC hNt ht hd1 hw1
   cases hpt : p t with
   | true =>
    rw [hpt] at HI HT1; go_wp2_with (go_at_call 177; refine HI.out.mono ?_; rintro e w3 ⟨rfl, hb3⟩)
    go_roundw
    case rel => exact ⟨k + 1, by go_num, by omega, Lh (HT1.out.trans (by rw [hR.out]; rfl)), hbr.trans (hb3.mono hbr.size)⟩
    case measure => simp [intOf]; omega
   | false =>
    rw [hpt] at HI HT1; go_wp2_with (go_at_call 177; refine HI.out.mono ?_; rintro e w3 ⟨rfl, hb3⟩); go_ret; exact ⟨⟨k, rfl, .inl ⟨by omega, all_le (HT1.out.trans lq30)⟩⟩, hbr.trans (hb3.mono hbr.size)⟩
  ·have o1 : decide ((k : Int) < (n : Int)) = false := dFo; have o2 : decide (k < n) = false := dFa hkl; have hR2 := hR.out; rw [List.take_of_length_le (by have := HNn.out; omega)] at hR2; go_wp2_with fail; go_ret; exact ⟨⟨-1, rfl, .inr ⟨rfl, hR2⟩⟩, hbr⟩
theorem hasNode_ok :
  Calls Tryz.prog 176 #[.slice K n d, .func (.func 177) #[] #[.pointer (some ⟨X, 0, none⟩)]] w fun e w' => e = .returned (.bool (!(l.all p))) ∧ Below w.heap.size w w' := by
 have HI := Lh (idxNode_ok D v p X l n K d w hS hX hn hl hWi hnd hd)
 clear hS hX hl hn hWi
 go_enter Tryz.func176, Tryz.ntmps176
 go_wp2_with (go_at_call 205; refine HI.out.mono ?_; rintro e w3 ⟨⟨r, rfl, hr⟩, hb3⟩)
 go_ret
 refine ⟨?_, hb3⟩
 show Ending.returned (.bool (decide (0 ≤ r))) = _
 rcases hr with ⟨h1, h2⟩ | ⟨h1, h2⟩
 ·rw [h2, dTr h1]; rfl
 ·rw [h2, h1]; rfl
end
theorem each_ok (D : Nat) (v : Value) (p : Nd → Bool) (l : List Nd) (n : Nat) (K : Option Addr) (d : Nat) (w : World) (hS : ShapeOk D w v p) (hn : l.length = n) (hl : KidsAt w l K 0) (hWi : Within D l) (hnd : n ≤ d) (hd : d ≤ maxLen) :
  Calls Tryz.prog 130 #[.slice K n d, v] w fun e w' => e = .returned (.bool (l.all p)) ∧ Below w.heap.size w w' := by
 have hb1 := (Below.refl w.heap.size w).alloc (Nat.le_refl _) (.cells #[v] 69)
 have hI := hasNode_ok D v p w.heap.size l n K d _ (hS.later hb1) (box_one w v _) hn (hl.later hb1) hWi hnd hd
 obtain ⟨f, caps, hv, _⟩ := hS
 subst hv
 have HI := Lh hI
 clear hI hl hn hWi
 go_enter Tryz.func130, Tryz.ntmps130
 go_wp2_with (go_at_call 176; refine HI.out.mono ?_; rintro e w3 ⟨rfl, hb3⟩)
 go_ret
 exact ⟨rfl, hb1.trans (hb3.mono hb1.size)⟩
theorem some1_ok (D : Nat) (v : Value) (p : Nd → Bool) (m X Y : Nat) (w : World) (hS : ShapeOk D w v p) (hm : m ≤ 10) (hX : w.cell? ⟨X, 0, none⟩ = some (.int .i64 m)) (hY : w.cell? ⟨Y, 0, none⟩ = some v) (T : Nd) (A : Option Addr) (c : Nat) (K : Option Addr) (d : Nat) (hD : T.depth ≤ D + 1) (hW : T.weight ≤ 1048576) (hN : NodeAt w T A c K d) :
  Calls Tryz.prog 129 #[ndV T A c K d, .pointer (some ⟨X, 0, none⟩), .pointer (some ⟨Y, 0, none⟩)] w fun e w' => e = .returned (.bool (decide (m ≤ T.kids.length) && T.kids.all p)) ∧ Below w.heap.size w w' := by
 have hX2 := fun o => cLt ((Below.refl w.heap.size w).alloc (Nat.le_refl _) o) hX
 have hXl := World.block_lt_of_cell? w _ hX
 have hY2 := fun o => cLt ((Below.refl w.heap.size w).alloc (Nat.le_refl _) o) hY
 have hYl := World.block_lt_of_cell? w _ hY
 have HR := Lh (fun o => each_ok D v p T.kids T.kids.length K d (w.alloc o) (hS.later ((Below.refl w.heap.size w).alloc (Nat.le_refl _) o)) rfl (hN.parts.2.2.2.2.2.2.2.2.2.later ((Below.refl w.heap.size w).alloc (Nat.le_refl _) o)) (within_kids hD hW) hN.parts.2.2.2.2.1 hN.parts.2.2.2.2.2.1)
 obtain ⟨f, caps, hv, _⟩ := hS
 subst hv
 by_cases hml : m ≤ T.kids.length
 ·have e1 : decide ((m : Int) ≤ (T.kids.length : Int)) = true := dTo; have e2 : decide (m ≤ T.kids.length) = true := dTr hml; obtain ⟨hm1, hm2, hrm, hw32, hk1, hk2, ⟨hk64a, hk64b⟩, ⟨ha64a, ha64b⟩, hts, hKs, HK⟩ := hN.hd; obtain ⟨hb1, c0, c1, c2, c3, c4, c5⟩ := bxn w T A c K d; have c6 := hX2 (bx T.kind T A c K d); have c7 := hY2 (bx T.kind T A c K d); clear hX hX2 hY hY2 hml; unfold ndV; clear hKs hN; go_enter Tryz.func129, Tryz.ntmps129; go_wp2_with (go_at_call 130; refine (HR.out _).mono ?_; rintro e w3 ⟨rfl, hb3⟩); go_ret
  exact ⟨by first | rfl | (show Ending.returned (.bool _) = _; rw [e2]; rfl), hb1.trans (hb3.mono hb1.size)⟩
 ·have e1 : decide ((m : Int) ≤ (T.kids.length : Int)) = false := dFo; have e2 : decide (m ≤ T.kids.length) = false := dFa hml; obtain ⟨hm1, hm2, hrm, hw32, hk1, hk2, ⟨hk64a, hk64b⟩, ⟨ha64a, ha64b⟩, hts, hKs, HK⟩ := hN.hd; obtain ⟨hb1, c0, c1, c2, c3, c4, c5⟩ := bxn w T A c K d; have c6 := hX2 (bx T.kind T A c K d); have c7 := hY2 (bx T.kind T A c K d); clear hX hX2 hY hY2 hml; unfold ndV; clear hKs hN; go_enter Tryz.func129, Tryz.ntmps129; go_wp2_with fail; go_ret; exact ⟨by first | rfl | (show Ending.returned (.bool _) = _; rw [e2]; rfl), hb1⟩
theorem lxWord_ok (T : ByteArray) (w : World) : Calls Tryz.prog 135 #[.string T] w fun e w' => e = .returned (.bool (wordB T.data.toList)) ∧ w = w' := by
 rw [← Lib.toList_data]
 go_enter Tryz.func135, Tryz.ntmps135
 go_wp2
 all_goals (go_ret; refine ⟨?_, rfl⟩; simp only [wordB, wordsL, List.contains_cons, List.contains_nil, Bool.true_or, Bool.or_true, Bool.false_or, Bool.or_false, *])
 all_goals first
  | rfl
  | (exfalso; simp_all; done)
def preB : List UInt8 → Bool
 | [] => true
 | c :: r => isLet c && r.all isWd
theorem nameB_eq (s : List UInt8) : nameB s = (!s.isEmpty && preB s && !wordB s) := by
 cases s with
 | nil => rfl
 | cons c r => simp [nameB, preB]
theorem pre_take (l : List UInt8) (k : Nat) (c : UInt8) (h : l[k]? = some c) : preB (l.take (k + 1)) = (preB (l.take k) && (if k = 0 then isLet c else isWd c)) := by
 cases l with
 | nil => simp at h
 | cons a r =>
  cases k with
  | zero => simp at h; subst h; simp [preB]
  | succ k =>
   rw [List.getElem?_cons_succ] at h; obtain ⟨hk, hc⟩ := List.getElem?_eq_some_iff.1 h; rw [List.take_succ_cons, List.take_succ_cons, preB, preB, List.take_succ_eq_append_getElem hk, List.all_append, hc]
   simp [Bool.and_assoc]
theorem pre_le (l : List UInt8) (k : Nat) (h : preB (l.take k) = false) : preB l = false := by
 cases l with
 | nil => simpa using h
 | cons a r =>
  cases k with
  | zero => simp [preB] at h
  | succ k =>
   rw [List.take_succ_cons, preB] at h; rw [preB]
   cases ha : isLet a with
   | false => rfl
   | true =>
    rw [ha, Bool.true_and] at h; rw [Bool.true_and]
    cases hr : r.all isWd with
    | false => rfl
    | true =>
     rw [List.all_eq_true] at hr; have : (r.take k).all isWd = true := List.all_eq_true.2 fun t ht => hr t (List.mem_of_mem_take ht)
     rw [this] at h; exact h
theorem isName_ok (s : ByteArray) (w : World) (hs : s.size ≤ 1099511627776) : Calls Tryz.prog 73 #[.string s] w fun e w' => e = .returned (.bool (nameB s.data.toList)) ∧ Below w.heap.size w w' := by
 have hsz : s.data.toList.length = s.size := by simp
 have HN := Lh (nameB_eq s.data.toList)
 have HW := Lh (fun W => lxWord_ok s W)
 have HL := Lh hsz
 have HP := Lh (fun k c h => pre_take s.data.toList k c h)
 have HQ := Lh (fun k h => pre_le s.data.toList k h)
 generalize nameB s.data.toList = R at *
 have HTE := Lh (text_empty s)
 clear hsz
 go_enter Tryz.func73, Tryz.ntmps73
 go_wp2_with fail
 go_loopw [8] (fun iv wr => ∃ k : Nat, iv = .int .i64 k ∧ k ≤ s.size ∧ Hid (preB (s.data.toList.take k) = true) ∧ Below w.heap.size w wr) (fun iv _ => s.size - (intOf iv).toNat)
 case atStart => exact ⟨0, rfl, Nat.zero_le _, Lh rfl, Below.refl _ _⟩
 case round =>
  obtain ⟨k, rfl, hk, hR, hbr⟩ := hrel
  by_cases hkl : k < s.size
  ·have o1 : decide ((k : Int) < (s.size : Int)) = true := dTo; have o2 : decide (k < s.size) = true := dTr hkl; have hT1 := HP.out k s[k] (by rw [List.getElem?_eq_getElem (by rw [HL.out]; exact hkl)]; rfl); rw [hR.out, Bool.true_and] at hT1; obtain ⟨x, hx⟩ : ∃ x, s[k].toNat = x := ⟨_, rfl⟩; have hlet : isLet s[k] = ((decide (97 ≤ x) && decide (x ≤ 122)) || (decide (65 ≤ x) && decide (x ≤ 90)) || x == 95) := by rw [isLet, hx]
   have hdig : isDig s[k] = (decide (48 ≤ x) && decide (x ≤ 57)) := by rw [isDig, hx]
   have hwd : isWd s[k] = (isLet s[k] || isDig s[k]) := rfl; rw [hwd, hlet, hdig] at hT1; clear hlet hdig hwd; have HX := Lh hx; have HT1 := Lh hT1; clear hT1 hx
   by_cases h0 : k = 0
   ·have q0 : ((k : Int) == 0) = true := by rw [h0]; rfl
    rw [if_pos h0] at HT1; clear h0
    rcases (by omega : x < 48 ∨ (48 ≤ x ∧ x ≤ 57) ∨ (57 < x ∧ x < 65) ∨ (65 ≤ x ∧ x ≤ 90) ∨ (90 < x ∧ x < 95) ∨ x = 95 ∨ x = 96 ∨ (97 ≤ x ∧ x ≤ 122) ∨ 122 < x) with h | h | h | h | h | h | h | h | h
    ·exact lv50
    ·have hz : preB (s.data.toList.take (k + 1)) = false := by rw [HT1.out]; simp; omega
     have f0 : decide (97 ≤ (s[k].toNat : Int)) = false := dFa lq25; have f1 : decide ((s[k].toNat : Int) ≤ 122) = true := dTr lq25; have f2 : decide (65 ≤ (s[k].toNat : Int)) = false := dFa lq25; have f3 : decide ((s[k].toNat : Int) ≤ 90) = true := dTr lq25; have f4 : ((s[k].toNat : Int) == 95) = false := by rw [HX.out]; simp; omega
     have f5 : decide ((s[k].toNat : Int) < 48) = false := dFa lq25; have f6 : decide (57 < (s[k].toNat : Int)) = false := dFa lq25; have n0 : decide (97 ≤ s[k].toNat) = false := dFa lq25; have n1 : decide (s[k].toNat ≤ 122) = true := dTr lq25; have n2 : decide (65 ≤ s[k].toNat) = false := dFa lq25; have n3 : decide (s[k].toNat ≤ 90) = true := dTr lq25; have n4 : (s[k].toNat == 95) = false := by rw [HX.out]; simp; omega
     have n5 : decide (s[k].toNat < 48) = false := dFa lq25; have n6 : decide (57 < s[k].toNat) = false := dFa lq25; exact lv175
    ·exact lv51
    ·exact lv61
    ·exact lv52
    ·exact lv64
    ·exact lv52
    ·exact lv62
    ·exact lv53
   ·have q0 : ((k : Int) == 0) = false := beq0F h0; rw [if_neg h0] at HT1; clear h0
    rcases (by omega : x < 48 ∨ (48 ≤ x ∧ x ≤ 57) ∨ (57 < x ∧ x < 65) ∨ (65 ≤ x ∧ x ≤ 90) ∨ (90 < x ∧ x < 95) ∨ x = 95 ∨ x = 96 ∨ (97 ≤ x ∧ x ≤ 122) ∨ 122 < x) with h | h | h | h | h | h | h | h | h
    ·exact lv50
    ·have hz : preB (s.data.toList.take (k + 1)) = true := by rw [HT1.out]; simp; omega
     have f0 : decide (97 ≤ (s[k].toNat : Int)) = false := dFa lq25; have f1 : decide ((s[k].toNat : Int) ≤ 122) = true := dTr lq25; have f2 : decide (65 ≤ (s[k].toNat : Int)) = false := dFa lq25; have f3 : decide ((s[k].toNat : Int) ≤ 90) = true := dTr lq25; have f4 : ((s[k].toNat : Int) == 95) = false := by rw [HX.out]; simp; omega
     have f5 : decide ((s[k].toNat : Int) < 48) = false := dFa lq25; have f6 : decide (57 < (s[k].toNat : Int)) = false := dFa lq25; have n0 : decide (97 ≤ s[k].toNat) = false := dFa lq25; have n1 : decide (s[k].toNat ≤ 122) = true := dTr lq25; have n2 : decide (65 ≤ s[k].toNat) = false := dFa lq25; have n3 : decide (s[k].toNat ≤ 90) = true := dTr lq25; have n4 : (s[k].toNat == 95) = false := by rw [HX.out]; simp; omega
     have n5 : decide (s[k].toNat < 48) = false := dFa lq25; have n6 : decide (57 < s[k].toNat) = false := dFa lq25; clear h; go_wp2_with fail
     go_roundw
     case rel => exact ⟨k + 1, by go_num, by omega, Lh hz, hbr⟩
     case measure => simp [intOf]; omega
    ·exact lv51
    ·exact lv61
    ·exact lv52
    ·exact lv64
    ·exact lv52
    ·exact lv62
    ·exact lv53
  ·have o1 : decide ((k : Int) < (s.size : Int)) = false := dFo; have o2 : decide (k < s.size) = false := dFa hkl; have hR2 := hR.out; rw [List.take_of_length_le (by have := HL.out; omega)] at hR2; have hte : s.data.toList.isEmpty = s.toList.isEmpty := by rw [Lib.toList_data]
   have hN2 := HN.out; rw [hR2, Bool.and_true, hte] at hN2; have HN2 := Lh hN2; clear hR2 hte hN2
   by_cases hs0 : s.size = 0
   ·have e1 : s.toList.isEmpty = true := by rw [HTE.out, hs0]; rfl
    rw [e1] at HN2; go_wp2_with fail; go_ret; exact ⟨by rw [HN2.out]; rfl, hbr⟩
   ·have e1 : s.toList.isEmpty = false := by rw [HTE.out]; simpa using hs0
    rw [e1] at HN2; go_wp2_with (go_at_call 135; refine (HW.out _).mono ?_; rintro e w3 ⟨rfl, rfl⟩); go_ret; exact ⟨by rw [HN2.out]; rfl, hbr⟩
end
section
open Go.RowKit Go.Shelf
open List (length_append length_cons length_nil length_singleton)
def hexCells (r d k : Nat) : Array Value := ((List.range d).map fun j => numCell r d k j).toArray
theorem refHex_ok (r d : Nat) (hd : d = 2 ∨ d = 4) (hr : r ≤ 1114111) (w : World) :
  Calls Tryz.prog 198 #[.int .i64 r, .int .i64 d] w fun e w' => e = .returned (.string ⟨(numb r d).toArray⟩) ∧ Below w.heap.size w w' := by
 have hcv : ∀ c, (convert 40 9 (.slice (some ⟨w.heap.size, 0, none⟩) d c)).run Tryz.prog (w.alloc (.cells (hexCells r d d) 5)) = .ok (.string ⟨(numb r d).toArray⟩) (w.alloc (.cells (hexCells r d d) 5)) := by
  intro c; have h := conv_arr w (numb r d) (hexCells r d d) 5 c ?_
  ·rw [numb_len] at h; exact h
  ·intro j hj; rw [numb_len] at hj
   rcases hd with rfl | rfl
   ·have : j = 0 ∨ j = 1 := by omega
    rcases this with rfl | rfl <;> simp [hexCells, numCell, numb2]
   ·have : j = 0 ∨ j = 1 ∨ j = 2 ∨ j = 3 := by omega
    rcases this with rfl | rfl | rfl | rfl <;> simp [hexCells, numCell, numb4, Nat.div_div_eq_div_mul]
 obtain ⟨X, hX⟩ : ∃ X, (⟨(numb r d).toArray⟩ : ByteArray) = X := ⟨_, rfl⟩
 rw [hX]
 rw [hX] at hcv
 clear hX
 rcases hd with rfl | rfl
 ·have hmk : ∀ W : World, (Instr.makeSlice 40 (.int .i64 2) (.int .i64 2)).run Tryz.prog W = .ok (.slice (some ⟨W.heap.size, 0, none⟩) 2 2) (W.alloc (.cells (hexCells r 2 0) 5)) := by
   intro W; have := run_make_row' (P := Tryz.prog) 40 5 _ 1 Tryz.underlying40 u8_info rfl .i64 .i64 2 lq28 lq28 W; rw [show madeCells #[Value.int .u8 0] 2 = hexCells r 2 0 from Array.ext' (by simp [madeCells, hexCells, numCell, List.range_succ])] at this; exact this
  rw [show ((2 : Nat) : Int) = 2 from rfl]; go_enter Tryz.func198, Tryz.ntmps198; go_wp2
  go_loopw [0, 6] (fun v0 v6 wr => ∃ k : Nat, v0 = .int .i64 (r / 16 ^ k : Nat) ∧ v6 = .int .i64 (1 - k) ∧ k ≤ 2 ∧ wr = w.alloc (.cells (hexCells r 2 k) 5)) (fun _ v6 _ => (intOf v6 + 1).toNat)
  case atStart => exact ⟨0, by simp, rfl, by omega, by rfl⟩
  case round =>
   obtain ⟨k, rfl, rfl, hk, rfl⟩ := hrel; have hcase : k = 0 ∨ k = 1 ∨ k = 2 := by omega
   obtain ⟨q, hq⟩ : ∃ q, r / 16 ^ k = q := ⟨_, rfl⟩; obtain ⟨m, hm⟩ : ∃ m, q % 16 = m := ⟨_, rfl⟩; have hml : m < 16 := by rw [← hm]; exact Nat.mod_lt _ lq28
   have hql : q ≤ 1114111 := by rw [← hq]; exact Nat.le_trans (Nat.div_le_self _ _) hr
   have hn : r / 16 ^ (k + 1) = q / 16 := by rw [← hq, Nat.pow_succ, Nat.div_div_eq_div_mul]
   have ha : (q : Int).tmod 16 = (m : Int) := by rw [Int.tmod_eq_emod_of_nonneg lq29, ← hm]; omega
   have ha2 : (q : Int) % 16 = (m : Int) := by rw [← hm]; omega
   rw [hq]; have HQ := Lh hq; have HM := Lh hm; have HN := Lh hn; clear hq hm hk hn
   rcases hcase with rfl | rfl | rfl
   ·exact lv143
   ·exact lv144
   ·go_wp2; go_ret; exact ⟨rfl, Below.alloc (Below.refl _ _) (Nat.le_refl _) _⟩
 ·have hmk : ∀ W : World, (Instr.makeSlice 40 (.int .i64 4) (.int .i64 4)).run Tryz.prog W = .ok (.slice (some ⟨W.heap.size, 0, none⟩) 4 4) (W.alloc (.cells (hexCells r 4 0) 5)) := by
   intro W; have := run_make_row' (P := Tryz.prog) 40 5 _ 1 Tryz.underlying40 u8_info rfl .i64 .i64 4 lq28 lq28 W; rw [show madeCells #[Value.int .u8 0] 4 = hexCells r 4 0 from Array.ext' (by simp [madeCells, hexCells, numCell, List.range_succ])] at this; exact this
  rw [show ((4 : Nat) : Int) = 4 from rfl]; go_enter Tryz.func198, Tryz.ntmps198; go_wp2
  go_loopw [0, 6] (fun v0 v6 wr => ∃ k : Nat, v0 = .int .i64 (r / 16 ^ k : Nat) ∧ v6 = .int .i64 (3 - k) ∧ k ≤ 4 ∧ wr = w.alloc (.cells (hexCells r 4 k) 5)) (fun _ v6 _ => (intOf v6 + 1).toNat)
  case atStart => exact ⟨0, by simp, rfl, by omega, by rfl⟩
  case round =>
   obtain ⟨k, rfl, rfl, hk, rfl⟩ := hrel; have hcase : k = 0 ∨ k = 1 ∨ k = 2 ∨ k = 3 ∨ k = 4 := by omega
   obtain ⟨q, hq⟩ : ∃ q, r / 16 ^ k = q := ⟨_, rfl⟩; obtain ⟨m, hm⟩ : ∃ m, q % 16 = m := ⟨_, rfl⟩; have hml : m < 16 := by rw [← hm]; exact Nat.mod_lt _ lq28
   have hql : q ≤ 1114111 := by rw [← hq]; exact Nat.le_trans (Nat.div_le_self _ _) hr
   have hn : r / 16 ^ (k + 1) = q / 16 := by rw [← hq, Nat.pow_succ, Nat.div_div_eq_div_mul]
   have ha : (q : Int).tmod 16 = (m : Int) := by rw [Int.tmod_eq_emod_of_nonneg lq29, ← hm]; omega
   have ha2 : (q : Int) % 16 = (m : Int) := by rw [← hm]; omega
   rw [hq]; have HQ := Lh hq; have HM := Lh hm; have HN := Lh hn; clear hq hm hk hn
   rcases hcase with rfl | rfl | rfl | rfl | rfl
   ·exact lv143
   ·exact lv144
   ·simp only [hexCells, List.range_succ_eq_map, List.range_zero, List.map_cons, List.map_nil]; clear hcv; go_wp2
    go_roundw
    case rel => exact ⟨3, by rw [HN.out]; simp, by rfl, by omega, by rw [hexAt m hml, ← HM.out, ← HQ.out]; simp [hexCells, numCell, List.range_succ]⟩
    case measure => simp [intOf]
   ·simp only [hexCells, List.range_succ_eq_map, List.range_zero, List.map_cons, List.map_nil]; clear hcv; go_wp2
    go_roundw
    case rel => exact ⟨4, by rw [HN.out]; simp, by rfl, by omega, by rw [hexAt m hml, ← HM.out, ← HQ.out]; simp [hexCells, numCell, List.range_succ]⟩
    case measure => simp [intOf]
   ·go_wp2; go_ret; exact ⟨rfl, Below.alloc (Below.refl _ _) (Nat.le_refl _) _⟩
theorem news_one (w : World) (x : Value) (t : TypeId) : ∀ j u, [x][j]? = some u → (w.alloc (.cells #[x] t)).cell? ((⟨w.heap.size, 0, none⟩ : Addr).add j) = some u := by
 exact lv177
theorem news_two (w : World) (x y : Value) (t : TypeId) : ∀ j u, [x, y][j]? = some u → (w.alloc (.cells #[x, y] t)).cell? ((⟨w.heap.size, 0, none⟩ : Addr).add j) = some u := by
 intro j u h
 match j with
 | 0 =>
  simp only [List.getElem?_cons_zero, Option.some.injEq] at h; subst h; rw [Addr.add_lit, World.cell?_alloc_at _ _ _ _ rfl]; rfl
 | 1 =>
  simp only [List.getElem?_cons_succ, List.getElem?_cons_zero, Option.some.injEq] at h; subst h; rw [Addr.add_lit, World.cell?_alloc_at _ _ _ _ rfl]; rfl
 | j + 2 => simp at h
end
end Go.Proofs.YtjefhdlncikhmaaGreatDoor
