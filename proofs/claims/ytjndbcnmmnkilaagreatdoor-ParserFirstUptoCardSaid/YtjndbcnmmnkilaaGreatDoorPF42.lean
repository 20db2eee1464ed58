/- Joined by a program: Shp6, Txt, ValidLay, LawQuote, Trim, WPlain, WDec, PPlain, Bits, Refa. -/
import Derived.Test.YtjndbcnmmnkilaaGreatDoorPF41
namespace Go.Proofs.YtjndbcnmmnkilaaGreatDoor
set_option linter.unusedVariables false
set_option linter.unusedSimpArgs false
set_option maxRecDepth 1000000
set_option maxHeartbeats 16000000
section
open Go.RowKit
open List (length_append length_cons length_nil length_singleton)
theorem each1_ok (D : Nat) (v : Value) (p : Nd → Bool) (X : Nat) (w : World) (hS : ShapeOk D w v p) (hX : w.cell? ⟨X, 0, none⟩ = some v) (T : Nd) (A : Option Addr) (c : Nat) (K : Option Addr) (d : Nat) (hD : T.dep ≤ D) (hW : T.weight ≤ 1048576) (hN : NodeAt w T A c K d) :
  Calls Tryz.prog 261 #[ndV T A c K d, .pointer (some ⟨X, 0, none⟩)] w fun e w' => e = .returned (.bool (!(p T))) ∧ Below w.heap.size w w' := by
 obtain ⟨f, caps, hv, hrn, hf⟩ := hS
 subst hv
 have hX2 := fun o => cLt ((Below.refl w.heap.size w).alloc (Nat.le_refl _) o) hX
 have hXl := World.block_lt_of_cell? w _ hX
 have hI := hf _ ((Below.refl w.heap.size w).alloc (Nat.le_refl _) (.cells #[.int .i64 T.kind, .int .i64 T.pos, .string T.text, .bool T.neg, .slice A T.mag.length c, .slice K T.kids.length d] 29)) T A c K d hD hW (hN.later ((Below.refl w.heap.size w).alloc (Nat.le_refl _) _))
 unfold ndV at hI
 have HI := Lh hI
 clear hI hf
 obtain ⟨hm1, hm2, hrm, hw32, hk1, hk2, ⟨hk64a, hk64b⟩, ⟨ha64a, ha64b⟩, hts, hKs, HK⟩ := hN.hd
 have hb1 := (Below.refl w.heap.size w).alloc (Nat.le_refl _) (.cells #[.int .i64 T.kind, .int .i64 T.pos, .string T.text, .bool T.neg, .slice A T.mag.length c, .slice K T.kids.length d] 29)
 obtain ⟨c0, c1, c2, c3, c4, c5⟩ := (cellsN_new w T A c K d 29).box
 have c6 := hX2 (.cells #[.int .i64 T.kind, .int .i64 T.pos, .string T.text, .bool T.neg, .slice A T.mag.length c, .slice K T.kids.length d] 29)
 clear hX hX2
 unfold ndV
 clear hKs hN
 go_enter Tryz.func261, Tryz.ntmps261
 go_wp2_with (with_reducible refine HI.out.mono ?_; rintro e w3 ⟨rfl, hb3⟩)
 go_ret
 exact ⟨rfl, hb1.trans (hb3.mono hb1.size)⟩
theorem all_take {l : List Nd} {p : Nd → Bool} {k : Nat} {t : Nd} (h : l[k]? = some t) : (l.take (k + 1)).all p = ((l.take k).all p && p t) := by
 rw [List.take_succ_eq_append_getElem (List.getElem?_eq_some_iff.1 h).1, List.all_append]
 simp [(List.getElem?_eq_some_iff.1 h).2]
theorem all_le {l : List Nd} {p : Nd → Bool} {k : Nat} (h : (l.take k).all p = false) : l.all p = false := by
 cases hl : l.all p with
 | false => rfl
 | true =>
  rw [List.all_eq_true] at hl; have : (l.take k).all p = true := List.all_eq_true.2 fun t ht => hl t (List.mem_of_mem_take ht)
  rw [this] at h; exact h
section
variable (D : Nat) (v : Value) (p : Nd → Bool) (X : Nat) (l : List Nd) (n : Nat) (K : Option Addr) (d : Nat) (w : World) (hS : ShapeOk D w v p) (hX : w.cell? ⟨X, 0, none⟩ = some v) (hn : l.length = n) (hl : KidsAt w l K 0) (hWi : Within D l) (hnd : n ≤ d) (hd : d ≤ maxLen)
include D v p X l n K d w hS hX hn hl hWi hnd hd
theorem idxNode_ok :
  Calls Tryz.prog 290 #[.slice K n d, .func (.func 261) #[] #[.pointer (some ⟨X, 0, none⟩)]] w fun e w' => (∃ r : Int, e = .returned (.int .i64 r) ∧ ((0 ≤ r ∧ l.all p = false) ∨ (r = -1 ∧ l.all p = true))) ∧ Below w.heap.size w w' := by
 have _ := hnd
 unfold maxLen at hd
 have HK := Lh hl
 have HNn := Lh hn
 have HW := Lh hWi
 have HN := Lh (fun W (hb : Below w.heap.size w W) T A c K d hD hW hN => each1_ok D v p X W (hS.later hb) (cLt hb hX) T A c K d hD hW hN)
 clear hl hn hWi hX hS
 go_enter Tryz.func290, Tryz.ntmps290
 go_wp2_with fail
 go_loopw [8] (fun iv wr => ∃ k : Nat, iv = .int .i64 k ∧ k ≤ n ∧ Hid ((l.take k).all p = true) ∧ Below w.heap.size w wr) (fun iv _ => n - (intOf iv).toNat)
 case atStart => exact ⟨0, rfl, Nat.zero_le _, Lh rfl, Below.refl _ _⟩
 case round =>
  obtain ⟨k, rfl, hk, hR, hbr⟩ := hrel
  by_cases hkl : k < n
  ·have o1 : decide ((k : Int) < (n : Int)) = true := dTo; have o2 : decide (k < n) = true := dTr hkl; obtain ⟨t, ht⟩ : ∃ t, l[k]? = some t := ⟨_, List.getElem?_eq_getElem (by rw [HNn.out]; exact hkl)⟩; obtain ⟨b, off, A', c', K', d', hK, hC, hNt⟩ := HK.out.kid ht; rw [Nat.zero_add] at hC; subst hK; obtain ⟨n0, n1, n2, n3, n4, n5⟩ := hC.later hbr; obtain ⟨hd1, hw1⟩ := HW.out t (mog ht); have hT1 := all_take (p := p) ht; have hI := HN.out wr hbr t A' c' K' d' hd1 hw1 (hNt.later hbr); unfold ndV at hI; have HI := Lh hI; have HT1 := Lh hT1; clear hI hT1 hC hNt ht hd1 hw1
   cases hpt : p t with
   | true =>
    rw [hpt] at HI HT1; go_wp2_with (go_at_call 261; refine HI.out.mono ?_; rintro e w3 ⟨rfl, hb3⟩)
    go_roundw
    case rel => exact ⟨k + 1, by go_num, by omega, Lh (HT1.out.trans (by rw [hR.out]; rfl)), hbr.trans (hb3.mono hbr.size)⟩
    case measure => simp [intOf]; omega
   | false =>
    rw [hpt] at HI HT1; go_wp2_with (go_at_call 261; refine HI.out.mono ?_; rintro e w3 ⟨rfl, hb3⟩); go_ret; exact ⟨⟨k, rfl, .inl ⟨by omega, all_le (HT1.out.trans lq18)⟩⟩, hbr.trans (hb3.mono hbr.size)⟩
  ·have o1 : decide ((k : Int) < (n : Int)) = false := dFo; have o2 : decide (k < n) = false := dFa hkl; have hR2 := hR.out; rw [List.take_of_length_le (by have := HNn.out; omega)] at hR2; go_wp2_with fail; go_ret; exact ⟨⟨-1, rfl, .inr ⟨rfl, hR2⟩⟩, hbr⟩
theorem hasNode_ok :
  Calls Tryz.prog 249 #[.slice K n d, .func (.func 261) #[] #[.pointer (some ⟨X, 0, none⟩)]] w fun e w' => e = .returned (.bool (!(l.all p))) ∧ Below w.heap.size w w' := by
 have HI := Lh (idxNode_ok D v p X l n K d w hS hX hn hl hWi hnd hd)
 clear hS hX hl hn hWi
 go_enter Tryz.func249, Tryz.ntmps249
 go_wp2_with (go_at_call 290; refine HI.out.mono ?_; rintro e w3 ⟨⟨r, rfl, hr⟩, hb3⟩)
 go_ret
 refine ⟨?_, hb3⟩
 show Ending.returned (.bool (decide (0 ≤ r))) = _
 rcases hr with ⟨h1, h2⟩ | ⟨h1, h2⟩
 ·rw [h2, dTr h1]; rfl
 ·rw [h2, h1]; rfl
end
theorem each_ok (D : Nat) (v : Value) (p : Nd → Bool) (l : List Nd) (n : Nat) (K : Option Addr) (d : Nat) (w : World) (hS : ShapeOk D w v p) (hn : l.length = n) (hl : KidsAt w l K 0) (hWi : Within D l) (hnd : n ≤ d) (hd : d ≤ maxLen) :
  Calls Tryz.prog 212 #[.slice K n d, v] w fun e w' => e = .returned (.bool (l.all p)) ∧ Below w.heap.size w w' := by
 have hb1 := (Below.refl w.heap.size w).alloc (Nat.le_refl _) (.cells #[v] 101)
 have hI := hasNode_ok D v p w.heap.size l n K d _ (hS.later hb1) (box_one w v _) hn (hl.later hb1) hWi hnd hd
 obtain ⟨f, caps, hv, _⟩ := hS
 subst hv
 have HI := Lh hI
 clear hI hl hn hWi
 go_enter Tryz.func212, Tryz.ntmps212
 go_wp2_with (go_at_call 249; refine HI.out.mono ?_; rintro e w3 ⟨rfl, hb3⟩)
 go_ret
 exact ⟨rfl, hb1.trans (hb3.mono hb1.size)⟩
theorem some1_ok (D : Nat) (v : Value) (p : Nd → Bool) (m X Y : Nat) (w : World) (hS : ShapeOk D w v p) (hm : m ≤ 10) (hX : w.cell? ⟨X, 0, none⟩ = some (.int .i64 m)) (hY : w.cell? ⟨Y, 0, none⟩ = some v) (T : Nd) (A : Option Addr) (c : Nat) (K : Option Addr) (d : Nat) (hD : T.dep ≤ D + 1) (hW : T.weight ≤ 1048576) (hN : NodeAt w T A c K d) :
  Calls Tryz.prog 211 #[ndV T A c K d, .pointer (some ⟨X, 0, none⟩), .pointer (some ⟨Y, 0, none⟩)] w fun e w' => e = .returned (.bool (decide (m ≤ T.kids.length) && T.kids.all p)) ∧ Below w.heap.size w w' := by
 have hX2 := fun o => cLt ((Below.refl w.heap.size w).alloc (Nat.le_refl _) o) hX
 have hXl := World.block_lt_of_cell? w _ hX
 have hY2 := fun o => cLt ((Below.refl w.heap.size w).alloc (Nat.le_refl _) o) hY
 have hYl := World.block_lt_of_cell? w _ hY
 have HR := Lh (fun o => each_ok D v p T.kids T.kids.length K d (w.alloc o) (hS.later ((Below.refl w.heap.size w).alloc (Nat.le_refl _) o)) rfl (hN.parts.2.2.2.2.2.2.2.2.2.later ((Below.refl w.heap.size w).alloc (Nat.le_refl _) o)) (within_kids hD hW) hN.parts.2.2.2.2.1 hN.parts.2.2.2.2.2.1)
 obtain ⟨f, caps, hv, _⟩ := hS
 subst hv
 by_cases hml : m ≤ T.kids.length
 ·have e1 : decide ((m : Int) ≤ (T.kids.length : Int)) = true := dTo; have e2 : decide (m ≤ T.kids.length) = true := dTr hml; obtain ⟨hm1, hm2, hrm, hw32, hk1, hk2, ⟨hk64a, hk64b⟩, ⟨ha64a, ha64b⟩, hts, hKs, HK⟩ := hN.hd; have hb1 := (Below.refl w.heap.size w).alloc (Nat.le_refl _) (.cells #[.int .i64 T.kind, .int .i64 T.pos, .string T.text, .bool T.neg, .slice A T.mag.length c, .slice K T.kids.length d] 29); obtain ⟨c0, c1, c2, c3, c4, c5⟩ := (cellsN_new w T A c K d 29).box
  have c6 := hX2 (.cells #[.int .i64 T.kind, .int .i64 T.pos, .string T.text, .bool T.neg, .slice A T.mag.length c, .slice K T.kids.length d] 29); have c7 := hY2 (.cells #[.int .i64 T.kind, .int .i64 T.pos, .string T.text, .bool T.neg, .slice A T.mag.length c, .slice K T.kids.length d] 29); clear hX hX2 hY hY2 hml; unfold ndV; clear hKs hN; go_enter Tryz.func211, Tryz.ntmps211; go_wp2_with (go_at_call 212; refine (HR.out _).mono ?_; rintro e w3 ⟨rfl, hb3⟩); go_ret; exact ⟨by first | rfl | (show Ending.returned (.bool _) = _; rw [e2]; rfl), hb1.trans (hb3.mono hb1.size)⟩
 ·have e1 : decide ((m : Int) ≤ (T.kids.length : Int)) = false := dFo; have e2 : decide (m ≤ T.kids.length) = false := dFa hml; obtain ⟨hm1, hm2, hrm, hw32, hk1, hk2, ⟨hk64a, hk64b⟩, ⟨ha64a, ha64b⟩, hts, hKs, HK⟩ := hN.hd; have hb1 := (Below.refl w.heap.size w).alloc (Nat.le_refl _) (.cells #[.int .i64 T.kind, .int .i64 T.pos, .string T.text, .bool T.neg, .slice A T.mag.length c, .slice K T.kids.length d] 29); obtain ⟨c0, c1, c2, c3, c4, c5⟩ := (cellsN_new w T A c K d 29).box
  have c6 := hX2 (.cells #[.int .i64 T.kind, .int .i64 T.pos, .string T.text, .bool T.neg, .slice A T.mag.length c, .slice K T.kids.length d] 29); have c7 := hY2 (.cells #[.int .i64 T.kind, .int .i64 T.pos, .string T.text, .bool T.neg, .slice A T.mag.length c, .slice K T.kids.length d] 29); clear hX hX2 hY hY2 hml; unfold ndV; clear hKs hN; go_enter Tryz.func211, Tryz.ntmps211; go_wp2_with fail; go_ret; exact ⟨by first | rfl | (show Ending.returned (.bool _) = _; rw [e2]; rfl), hb1⟩
def preB : List UInt8 → Bool
 | [] => true
 | c :: r => isLet c && r.all isWd
theorem nameB_eq (s : List UInt8) : nameB s = (!s.isEmpty && preB s && !wordB s) := by
 cases s with
 | nil => rfl
 | cons c r => simp [nameB, preB]
theorem pre_take (l : List UInt8) (k : Nat) (c : UInt8) (h : l[k]? = some c) : preB (l.take (k + 1)) = (preB (l.take k) && (if k = 0 then isLet c else isWd c)) := by
 cases l with
 | nil => simp at h
 | cons a r =>
  cases k with
  | zero => simp at h; subst h; simp [preB]
  | succ k =>
   rw [List.getElem?_cons_succ] at h; obtain ⟨hk, hc⟩ := List.getElem?_eq_some_iff.1 h; rw [List.take_succ_cons, List.take_succ_cons, preB, preB, List.take_succ_eq_append_getElem hk, List.all_append, hc]
   simp [Bool.and_assoc]
theorem pre_le (l : List UInt8) (k : Nat) (h : preB (l.take k) = false) : preB l = false := by
 cases l with
 | nil => simpa using h
 | cons a r =>
  cases k with
  | zero => simp [preB] at h
  | succ k =>
   rw [List.take_succ_cons, preB] at h; rw [preB]
   cases ha : isLet a with
   | false => rfl
   | true =>
    rw [ha, Bool.true_and] at h; rw [Bool.true_and]
    cases hr : r.all isWd with
    | false => rfl
    | true =>
     rw [List.all_eq_true] at hr; have : (r.take k).all isWd = true := List.all_eq_true.2 fun t ht => hr t (List.mem_of_mem_take ht)
     rw [this] at h; exact h
theorem isName_ok (s : ByteArray) (w : World) (hs : s.size ≤ 1099511627776) : Calls Tryz.prog 148 #[.string s] w fun e w' => e = .returned (.bool (nameB s.data.toList)) ∧ Below w.heap.size w w' := by
 have hsz : s.data.toList.length = s.size := by simp
 have HN := Lh (nameB_eq s.data.toList)
 have HW := Lh (fun W => lxWord_ok s W)
 have HL := Lh hsz
 have HP := Lh (fun k c h => pre_take s.data.toList k c h)
 have HQ := Lh (fun k h => pre_le s.data.toList k h)
 generalize nameB s.data.toList = R at *
 have HTE := Lh (text_empty s)
 clear hsz
 go_enter Tryz.func148, Tryz.ntmps148
 go_wp2_with fail
 go_loopw [8] (fun iv wr => ∃ k : Nat, iv = .int .i64 k ∧ k ≤ s.size ∧ Hid (preB (s.data.toList.take k) = true) ∧ Below w.heap.size w wr) (fun iv _ => s.size - (intOf iv).toNat)
 case atStart => exact ⟨0, rfl, Nat.zero_le _, Lh rfl, Below.refl _ _⟩
 case round =>
  obtain ⟨k, rfl, hk, hR, hbr⟩ := hrel
  by_cases hkl : k < s.size
  ·have o1 : decide ((k : Int) < (s.size : Int)) = true := dTo; have o2 : decide (k < s.size) = true := dTr hkl; have hT1 := HP.out k s[k] (by rw [List.getElem?_eq_getElem (by rw [HL.out]; exact hkl)]; rfl); rw [hR.out, Bool.true_and] at hT1; obtain ⟨x, hx⟩ : ∃ x, s[k].toNat = x := ⟨_, rfl⟩; have hlet : isLet s[k] = ((decide (97 ≤ x) && decide (x ≤ 122)) || (decide (65 ≤ x) && decide (x ≤ 90)) || x == 95) := by rw [isLet, hx]
   have hdig : isDig s[k] = (decide (48 ≤ x) && decide (x ≤ 57)) := by rw [isDig, hx]
   have hwd : isWd s[k] = (isLet s[k] || isDig s[k]) := rfl; rw [hwd, hlet, hdig] at hT1; clear hlet hdig hwd; have HX := Lh hx; have HT1 := Lh hT1; clear hT1 hx
   by_cases h0 : k = 0
   ·have q0 : ((k : Int) == 0) = true := by rw [h0]; rfl
    rw [if_pos h0] at HT1; clear h0
    rcases (by omega : x < 48 ∨ (48 ≤ x ∧ x ≤ 57) ∨ (57 < x ∧ x < 65) ∨ (65 ≤ x ∧ x ≤ 90) ∨ (90 < x ∧ x < 95) ∨ x = 95 ∨ x = 96 ∨ (97 ≤ x ∧ x ≤ 122) ∨ 122 < x) with h | h | h | h | h | h | h | h | h
    ·exact lv5
    ·have hz : preB (s.data.toList.take (k + 1)) = false := by rw [HT1.out]; simp; omega
     have f0 : decide (97 ≤ (s[k].toNat : Int)) = false := dFa lq14; have f1 : decide ((s[k].toNat : Int) ≤ 122) = true := dTr lq14; have f2 : decide (65 ≤ (s[k].toNat : Int)) = false := dFa lq14; have f3 : decide ((s[k].toNat : Int) ≤ 90) = true := dTr lq14; have f4 : ((s[k].toNat : Int) == 95) = false := by rw [HX.out]; simp; omega
     have f5 : decide ((s[k].toNat : Int) < 48) = false := dFa lq14; have f6 : decide (57 < (s[k].toNat : Int)) = false := dFa lq14; have n0 : decide (97 ≤ s[k].toNat) = false := dFa lq14; have n1 : decide (s[k].toNat ≤ 122) = true := dTr lq14; have n2 : decide (65 ≤ s[k].toNat) = false := dFa lq14; have n3 : decide (s[k].toNat ≤ 90) = true := dTr lq14; have n4 : (s[k].toNat == 95) = false := by rw [HX.out]; simp; omega
     have n5 : decide (s[k].toNat < 48) = false := dFa lq14; have n6 : decide (57 < s[k].toNat) = false := dFa lq14; clear h; have hR2 : R = false := by rw [HN.out, HQ.out _ hz, Bool.and_false, Bool.false_and]
     have HR2 := Lh hR2; clear hz hR2; go_wp2_with fail; go_ret; exact ⟨by rw [HR2.out]; rfl, hbr⟩
    ·exact lv6
    ·exact lv9
    ·exact lv7
    ·exact lv11
    ·exact lv7
    ·exact lv10
    ·exact lv8
   ·have q0 : ((k : Int) == 0) = false := beq0F h0; rw [if_neg h0] at HT1; clear h0
    rcases (by omega : x < 48 ∨ (48 ≤ x ∧ x ≤ 57) ∨ (57 < x ∧ x < 65) ∨ (65 ≤ x ∧ x ≤ 90) ∨ (90 < x ∧ x < 95) ∨ x = 95 ∨ x = 96 ∨ (97 ≤ x ∧ x ≤ 122) ∨ 122 < x) with h | h | h | h | h | h | h | h | h
    ·exact lv5
    ·have hz : preB (s.data.toList.take (k + 1)) = true := by rw [HT1.out]; simp; omega
     have f0 : decide (97 ≤ (s[k].toNat : Int)) = false := dFa lq14; have f1 : decide ((s[k].toNat : Int) ≤ 122) = true := dTr lq14; have f2 : decide (65 ≤ (s[k].toNat : Int)) = false := dFa lq14; have f3 : decide ((s[k].toNat : Int) ≤ 90) = true := dTr lq14; have f4 : ((s[k].toNat : Int) == 95) = false := by rw [HX.out]; simp; omega
     have f5 : decide ((s[k].toNat : Int) < 48) = false := dFa lq14; have f6 : decide (57 < (s[k].toNat : Int)) = false := dFa lq14; have n0 : decide (97 ≤ s[k].toNat) = false := dFa lq14; have n1 : decide (s[k].toNat ≤ 122) = true := dTr lq14; have n2 : decide (65 ≤ s[k].toNat) = false := dFa lq14; have n3 : decide (s[k].toNat ≤ 90) = true := dTr lq14; have n4 : (s[k].toNat == 95) = false := by rw [HX.out]; simp; omega
     have n5 : decide (s[k].toNat < 48) = false := dFa lq14; have n6 : decide (57 < s[k].toNat) = false := dFa lq14; clear h; go_wp2_with fail
     go_roundw
     case rel => exact ⟨k + 1, by go_num, by omega, Lh hz, hbr⟩
     case measure => simp [intOf]; omega
    ·exact lv6
    ·exact lv9
    ·exact lv7
    ·exact lv11
    ·exact lv7
    ·exact lv10
    ·exact lv8
  ·have o1 : decide ((k : Int) < (s.size : Int)) = false := dFo; have o2 : decide (k < s.size) = false := dFa hkl; have hR2 := hR.out; rw [List.take_of_length_le (by have := HL.out; omega)] at hR2; have hte : s.data.toList.isEmpty = s.toList.isEmpty := by rw [Lib.toList_data]
   have hN2 := HN.out; rw [hR2, Bool.and_true, hte] at hN2; have HN2 := Lh hN2; clear hR2 hte hN2
   by_cases hs0 : s.size = 0
   ·have e1 : s.toList.isEmpty = true := by rw [HTE.out, hs0]; rfl
    rw [e1] at HN2; go_wp2_with fail; go_ret; exact ⟨by rw [HN2.out]; rfl, hbr⟩
   ·have e1 : s.toList.isEmpty = false := by rw [HTE.out]; simpa using hs0
    rw [e1] at HN2; go_wp2_with (go_at_call 217; refine (HW.out _).mono ?_; rintro e w3 ⟨rfl, rfl⟩); go_ret; exact ⟨by rw [HN2.out]; rfl, hbr⟩
end
end Go.Proofs.YtjndbcnmmnkilaaGreatDoor
namespace Go.Proofs
set_option linter.unusedVariables false
set_option linter.unusedSimpArgs false
set_option maxRecDepth 1000000
set_option maxHeartbeats 16000000
section
open Go.Shelf Go.RowKit
def Tryz.layzValid_ren : Go.Shelf.Ren := ⟨fun | 196 => 263 | 259 => 298 | n => n, fun | 0 => 0 | 3 => 3 | 4 => 4 | 5 => 5 | 9 => 9 | 12 => 12 | 46 => 168 | 53 => 167 | 119 => 196 | 138 => 198 | 139 => 199 | n => n, fun | 3 => 0 | 4 => 1 | n => n⟩
theorem Tryz.layzValid : Go.Proofs.Lays.n196 Tryz.prog Tryz.layzValid_ren := {
 mixed := by kernel_rfl
 f196 := Tryz.func263.trans (congrArg some (by kernel_rfl))
 f259 := Tryz.func298.trans (congrArg some (by kernel_rfl))
 t0 := Tryz.underlying0
 a0 := Tryz.isAgg0
 z0 := Tryz.sizeOf0
 v0 := Tryz.zeroValue0
 t3 := Tryz.underlying3
 a3 := Tryz.isAgg3
 z3 := Tryz.sizeOf3
 v3 := Tryz.zeroValue3
 t4 := Tryz.underlying4
 a4 := Tryz.isAgg4
 z4 := Tryz.sizeOf4
 v4 := Tryz.zeroValue4
 t5 := Tryz.underlying5
 a5 := Tryz.isAgg5
 z5 := Tryz.sizeOf5
 v5 := Tryz.zeroValue5
 t9 := Tryz.underlying9
 a9 := Tryz.isAgg9
 z9 := Tryz.sizeOf9
 v9 := Tryz.zeroValue9
 t12 := Tryz.underlying12
 a12 := Tryz.isAgg12
 z12 := Tryz.sizeOf12
 v12 := Tryz.zeroValue12
 t46 := Tryz.underlying168
 a46 := Tryz.isAgg168
 z46 := Tryz.sizeOf168
 v46 := Tryz.zeroValue168
 t53 := Tryz.underlying167
 a53 := Tryz.isAgg167
 z53 := Tryz.sizeOf167
 v53 := Tryz.zeroValue167
 t119 := Tryz.underlying196
 a119 := Tryz.isAgg196
 z119 := Tryz.sizeOf196
 t138 := Tryz.underlying198
 a138 := Tryz.isAgg198
 z138 := Tryz.sizeOf198
 v138 := Tryz.zeroValue198
 t139 := Tryz.underlying199
 a139 := Tryz.isAgg199
 z139 := Tryz.sizeOf199
 v139 := Tryz.zeroValue199
 g3 := by kernel_rfl
 g4 := by kernel_rfl }
theorem Tryz.utf8_ValidString (s : ByteArray) (w : World) (hs : s.size ≤ 9223372036854775807) (hT : Lib.Utf8Tabs 0 1 w) :
  Calls Tryz.prog 263 #[.string s] w fun e w' => e = .returned (.bool (Lib.validD s.data.toList)) ∧ Below w.heap.size w w' := Any.utf8_ValidString Tryz.layzValid s w hs hT
end
end Go.Proofs
namespace Go.Proofs.YtjndbcnmmnkilaaGreatDoor
set_option linter.unusedVariables false
set_option linter.unusedSimpArgs false
set_option maxRecDepth 1000000
set_option maxHeartbeats 16000000
section
open Go.RowKit Go.Shelf
open List (length_append length_cons length_nil length_singleton)
theorem good_ok (s : ByteArray) (w : World) (hs : s.size ≤ 9223372036854775807) (hT : Lib.Utf8Tabs 0 1 w) :
  Calls Tryz.prog 219 #[.string s] w fun e w' => e = .returned (.bool (goodB s)) ∧ Below w.heap.size w w' := by
 have hv := fun wx h => Tryz.utf8_ValidString s wx hs h
 have hg : Lib.validD s.data.toList = goodB s := by
  rw [Bool.eq_iff_iff, goodB_iff, good_iff]
 rw [hg] at hv
 clear hg
 go_enter Tryz.func219, Tryz.ntmps219
 go_wp2_with (go_at_call 263; refine (hv _ hT).mono ?_; rintro e w1 ⟨rfl, hb1⟩)
 go_ret
 exact ⟨rfl, hb1⟩
end
section
open Go.RowKit
open List (length_append length_cons length_nil length_singleton)
def trimLen (zs : List Int) : Nat → Nat
 | 0 => 0
 | k + 1 => if zs[k]?.getD 0 = 0 then trimLen zs k else k + 1
theorem trimLen_le (zs : List Int) : ∀ k, trimLen zs k ≤ k
 | 0 => Nat.le_refl _
 | k + 1 => by rw [trimLen]; split; exact Nat.le_succ_of_le (trimLen_le zs k); exact Nat.le_refl _
def trimN (zs : List Int) : List Int := zs.take (trimLen zs zs.length)
theorem trimN_length (zs : List Int) : (trimN zs).length = trimLen zs zs.length := by
 rw [trimN, List.length_take]; exact Nat.min_eq_left (trimLen_le _ _)
theorem trimN_le (zs : List Int) : (trimN zs).length ≤ zs.length := by rw [trimN_length]; exact trimLen_le _ _
def val : List Int → Int
 | [] => 0
 | z :: zs => z + 4294967296 * val zs
theorem val_append (xs ys : List Int) : val (xs ++ ys) = val xs + 4294967296 ^ xs.length * val ys := by
 induction xs with
 | nil => simp [val]
 | cons x xs ih => simp only [List.cons_append, val, ih, length_cons, Int.pow_succ]; grind
theorem val_take_trim (zs : List Int) : ∀ k, k ≤ zs.length → val (zs.take (trimLen zs k)) = val (zs.take k)
 | 0, _ => rfl
 | k + 1, h => by
  rw [trimLen]
  split
  ·rename_i h0
   rw [val_take_trim zs k lq17, List.take_succ_eq_append_getElem lq17, val_append]; rw [gEo] at h0
   simp at h0
   simp [val, h0]
  ·rfl
theorem val_trimN (zs : List Int) : val (trimN zs) = val zs := by rw [trimN, val_take_trim zs _ (Nat.le_refl _), List.take_length]
theorem RdI.take {w : World} {k : IntKind} {A : Option Addr} {zs : List Int} (h : RdI w k A zs) (j : Nat) : RdI w k A (zs.take j) := fun i hi => by
 have hi' : i < j ∧ i < zs.length := by simpa [List.length_take, Nat.lt_min] using hi
 obtain ⟨b, off, z, hA, hz, hc⟩ := h i hi'.2
 exact ⟨b, off, z, hA, by rw [List.getElem?_take_of_lt hi'.1]; exact hz, hc⟩
theorem trim_any (A : Option Addr) (c : Nat) (zs : List Int) (w : World) (hr : RdI w .u32 A zs) (hl : zs.length ≤ c) (hm : c ≤ 9223372036854775807) :
  Calls Tryz.prog 269 #[.slice A zs.length c] w fun e w' => e = .returned (.slice A (trimN zs).length c) ∧ w = w' := by
 rw [trimN_length]
 go_enter Tryz.func269, Tryz.ntmps269
 go_wp2
 go_loop [0] (fun v => ∃ k : Nat, k ≤ zs.length ∧ v = .slice A k c ∧ Hid (trimLen zs k = trimLen zs zs.length)) (fun v => match v with | .slice _ k _ => k | _ => 0)
 case atStart => exact ⟨zs.length, Nat.le_refl _, rfl, rfl⟩
 case round =>
  obtain ⟨k, hk, rfl, hT⟩ := hrel
  cases k with
  | zero =>
   go_wp2; go_ret; exact ⟨by rw [← hT.out]; rfl, rfl⟩
  | succ k =>
   obtain ⟨b, off, z, rfl, hz, hc⟩ := hr k lq17; have hT' := hT.out; rw [trimLen, hz] at hT'; simp only [Option.getD_some] at hT'; have HZ := Lh hz; clear hz
   by_cases h0 : z = 0
   ·rw [if_pos h0] at hT'; have HT := Lh hT'; have h0' : (z == 0) = true := by simp [h0]
    clear hT' h0; go_wp2
    go_round
    case rel => exact ⟨k, by omega, rfl, HT⟩
    case measure => simp
   ·rw [if_neg h0] at hT'; have HT := Lh hT'; have h0' : (z == 0) = false := by simp [h0]
    clear hT' h0; go_wp2; go_ret; exact ⟨by rw [← HT.out]; rfl, rfl⟩
def W32 (zs : List Int) : Prop := ∀ z ∈ zs, 0 ≤ z ∧ z ≤ 4294967295
def NT : List Int → Prop
 | [] => True
 | [z] => z ≠ 0
 | _ :: z :: zs => NT (z :: zs)
theorem W32.tail {z : Int} {zs : List Int} (h : W32 (z :: zs)) : W32 zs := fun x hx => h x (List.mem_cons_of_mem _ hx)
theorem W32.head {z : Int} {zs : List Int} (h : W32 (z :: zs)) : 0 ≤ z ∧ z ≤ 4294967295 := h z (List.mem_cons_self ..)
theorem W32.nil : W32 [] := by simp [W32]
theorem W32.cons {z : Int} {zs : List Int} (h0 : 0 ≤ z) (h1 : z ≤ 4294967295) (h : W32 zs) : W32 (z :: zs) := by
 intro x hx
 rcases List.mem_cons.1 hx with rfl | hx
 ·exact ⟨h0, h1⟩
 ·exact h x hx
theorem W32.append {a b : List Int} (ha : W32 a) (hb : W32 b) : W32 (a ++ b) := by
 intro x hx
 rcases List.mem_append.1 hx with h | h
 ·exact ha x h
 ·exact hb x h
theorem W32.take {a : List Int} (h : W32 a) (n : Nat) : W32 (a.take n) := fun x hx => h x (List.mem_of_mem_take hx)
theorem W32.get {a : List Int} (h : W32 a) (i : Nat) (hi : i < a.length) : 0 ≤ a[i] ∧ a[i] ≤ 4294967295 := h _ (List.getElem_mem hi)
theorem pow_pos (n : Nat) : (0 : Int) < 4294967296 ^ n := Int.pow_pos lq16
theorem val_nn : ∀ {zs : List Int}, W32 zs → 0 ≤ val zs
 | [], _ => Int.le_refl _
 | z :: zs, h => by
  have h1 := val_nn h.tail; have h2 := h.head; rw [val]; omega
theorem val_bound : ∀ {zs : List Int}, W32 zs → val zs < 4294967296 ^ zs.length
 | [], _ => by simp [val]
 | z :: zs, h => by
  have h1 := val_bound h.tail; have h2 := h.head; rw [val, length_cons, Int.pow_succ]; omega
theorem val_snoc (zs : List Int) (z : Int) : val (zs ++ [z]) = val zs + 4294967296 ^ zs.length * z := by
 rw [val_append]; simp [val]
theorem val_take_succ (zs : List Int) (i : Nat) (h : i < zs.length) : val (zs.take (i + 1)) = val (zs.take i) + 4294967296 ^ i * zs[i] := by
 rw [List.take_succ_eq_append_getElem h, val_snoc, List.length_take, Nat.min_eq_left lq17]
theorem nt_low : ∀ {zs : List Int}, W32 zs → NT zs → zs ≠ [] → 4294967296 ^ (zs.length - 1) ≤ val zs
 | [], _, _, h => absurd rfl h
 | [z], h, hn, _ => by
  have := h.head; simp only [NT] at hn
  simp [val]; omega
 | x :: z :: zs, h, hn, _ => by
  have ih := nt_low h.tail hn lq18; have h2 := h.head; rw [val]; simp only [length_cons, Nat.add_sub_cancel] at ih ⊢; rw [Int.pow_succ]
  omega
theorem nt_pos {zs : List Int} (h : W32 zs) (hn : NT zs) (he : zs ≠ []) : 0 < val zs := Int.lt_of_lt_of_le (pow_pos _) (nt_low h hn he)
theorem nt_zero {zs : List Int} (h : W32 zs) (hn : NT zs) : val zs = 0 ↔ zs = [] := by
 constructor
 ·intro h0
  by_cases he : zs = []
  ·exact he
  ·have := nt_pos h hn he; omega
 ·rintro rfl; rfl
theorem nt_tail {z : Int} {zs : List Int} (h : NT (z :: zs)) : NT zs := by
 cases zs with
 | nil => trivial
 | cons y zs => exact h
theorem canon : ∀ {a b : List Int}, W32 a → W32 b → NT a → NT b → val a = val b → a = b
 | [], b, _, hb, _, nb, h => ((nt_zero hb nb).1 h.symm).symm
 | x :: a, [], ha, _, na, _, h => (nt_zero ha na).1 h
 | x :: a, y :: b, ha, hb, na, nb, h => by
  have h1 := ha.head; have h2 := hb.head; rw [val, val] at h; have hxy : x = y := by omega
  have ht : val a = val b := by omega
  rw [hxy, canon ha.tail hb.tail (nt_tail na) (nt_tail nb) ht]
theorem pow_mono {a b : Nat} (h : a ≤ b) : (4294967296 : Int) ^ a ≤ 4294967296 ^ b := by
 obtain ⟨d, rfl⟩ := Nat.exists_eq_add_of_le h
 rw [Int.pow_add]
 have h1 := pow_pos a
 have h2 := pow_pos d
 have h3 := Int.mul_le_mul_of_nonneg_left (show (1 : Int) ≤ 4294967296 ^ d by omega) (Int.le_of_lt h1)
 rwa [Int.mul_one] at h3
theorem nt_len {zs : List Int} (h : W32 zs) (hn : NT zs) (k : Nat) : k < zs.length ↔ 4294967296 ^ k ≤ val zs := by
 constructor
 ·intro hk; have he : zs ≠ [] := by intro e; rw [e] at hk; simp at hk
  exact Int.le_trans (pow_mono lq17) (nt_low h hn he)
 ·intro hv
  rcases Nat.lt_or_ge k zs.length with h1 | h1
  ·exact h1
  ·have := val_bound h; have := pow_mono h1
   omega
theorem nt_snoc (zs : List Int) (z : Int) (hz : z ≠ 0) : NT (zs ++ [z]) := by
 induction zs with
 | nil => exact hz
 | cons x zs ih =>
  cases zs with
  | nil => exact hz
  | cons y zs => exact ih
theorem trimLen_nt (zs : List Int) : ∀ k, k ≤ zs.length → NT (zs.take (trimLen zs k))
 | 0, _ => by simp [trimLen, NT]
 | k + 1, h => by
  rw [trimLen]
  split
  ·exact trimLen_nt zs k lq17
  ·rename_i h0
   rw [List.take_succ_eq_append_getElem lq17]
   apply nt_snoc
   rw [gEo] at h0
   simpa using h0
theorem trimN_nt (zs : List Int) : NT (trimN zs) := trimLen_nt zs _ (Nat.le_refl _)
theorem trimN_w32 {zs : List Int} (h : W32 zs) : W32 (trimN zs) := h.take _
def valI (b : Bool) (zs : List Int) : Int := if b then -(val zs) else val zs
def BIG : Int := 4294967296 ^ 256
theorem long_iff {zs : List Int} (h : W32 zs) : 256 < (trimN zs).length ↔ BIG ≤ val zs := by
 rw [nt_len (trimN_w32 h) (trimN_nt zs), val_trimN]; rfl
theorem valI_abs {b : Bool} {zs : List Int} (h : W32 zs) : (valI b zs).natAbs = val zs := by
 have := val_nn h
 unfold valI
 split <;> omega
def digs (n : Nat) : Nat → List Nat
 | 0 => []
 | K + 1 => (n / 10 ^ K % 10) :: digs n K
theorem digs_length (n K : Nat) : (digs n K).length = K := by
 induction K with
 | zero => rfl
 | succ K ih => simp [digs, ih]
theorem digs_zero (n : Nat) : ∀ K L, n < 10 ^ L → digs n (K + L) = List.replicate K 0 ++ digs n L
 | 0, L, _ => by simp
 | K + 1, L, h => by
  rw [show K + 1 + L = (K + L) + 1 by omega, digs, digs_zero n K L h, List.replicate_succ, List.cons_append]; have : n / 10 ^ (K + L) = 0 := Nat.div_eq_of_lt (Nat.lt_of_lt_of_le h (Nat.pow_le_pow_right lq16 lq17)); rw [this]
def dchr (d : Nat) : UInt8 := UInt8.ofNat (48 + d)
def decD (n K : Nat) : List Nat := (digs n K).dropWhile (· == 0)
theorem decD_any (n K L : Nat) (hK : n < 10 ^ K) (hL : n < 10 ^ L) : decD n K = decD n L := by
 have : ∀ K L, K ≤ L → n < 10 ^ K → decD n L = decD n K := by
  intro K L h hK; obtain ⟨d, rfl⟩ := Nat.exists_eq_add_of_le h; rw [Nat.add_comm, decD, digs_zero n d K hK, decD]; clear hL h
  induction d with
  | zero => rfl
  | succ d ih => rw [List.replicate_succ, List.cons_append, List.dropWhile_cons_of_pos (by rfl), ih]
 rcases Nat.le_total K L with h | h
 ·exact (this K L h hK).symm
 ·exact this L K h hL
def decB (n : Nat) : List UInt8 := (decD n n).map dchr
theorem decB_any (n K : Nat) (h : n < 10 ^ K) : decB n = (decD n K).map dchr := by
 rw [decB, decD_any n n K (Nat.lt_pow_self lq16) h]
def textL (X : Int) : List UInt8 := if X = 0 then [48] else if X < 0 then 45 :: decB X.natAbs else decB X.natAbs
def isD (c : UInt8) : Bool := decide (48 ≤ c.toNat ∧ c.toNat ≤ 57)
def decVal (d : List UInt8) : Nat := d.foldl (fun v c => 10 * v + (c.toNat - 48)) 0
theorem decVal_snoc (d : List UInt8) (c : UInt8) : decVal (d ++ [c]) = 10 * decVal d + (c.toNat - 48) := by simp [decVal]
theorem decVal_go : ∀ (d : List UInt8) (v : Nat), d.foldl (fun v c => 10 * v + (c.toNat - 48)) v = v * 10 ^ d.length + decVal d
 | [], v => by simp [decVal]
 | c :: d, v => by
  have h2 : decVal (c :: d) = d.foldl (fun v c => 10 * v + (c.toNat - 48)) (10 * 0 + (c.toNat - 48)) := rfl; rw [h2, List.foldl_cons, decVal_go d (10 * v + (c.toNat - 48)), decVal_go d (10 * 0 + (c.toNat - 48)), length_cons, Nat.pow_succ]; simp only [Nat.mul_zero, Nat.zero_add]
  generalize 10 ^ d.length = P
  generalize c.toNat - 48 = x
  generalize decVal d = y
  grind
theorem decVal_cons (c : UInt8) (d : List UInt8) : decVal (c :: d) = (c.toNat - 48) * 10 ^ d.length + decVal d := by
 rw [decVal, List.foldl_cons, decVal_go]; simp
theorem wrapU32 (n : Int) : IntKind.u32.wrap n = n % 4294967296 := by simp [IntKind.wrap, IntKind.bits, IntKind.signed]
theorem u32_info : (Tryz.prog.info? 52).map (fun i => (i.zero, i.size, i.bytes)) = some (some (.int .u32 0), 1, 4) := by kernel_rfl
end
end Go.Proofs.YtjndbcnmmnkilaaGreatDoor
