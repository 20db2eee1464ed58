/- Joined by a program: Prm, Def, Try, Call. -/
import Derived.Test.YtjefhdlncikhmaaGreatDoorPT11
namespace Go.Proofs.YtjefhdlncikhmaaGreatDoor
set_option linter.unusedVariables false
set_option linter.unusedSimpArgs false
set_option maxRecDepth 1000000
set_option maxHeartbeats 16000000
section
open Go.RowKit
open List (length_append length_cons length_nil length_singleton)
theorem params_drop {l : List Nd} {k : Nat} {p : Nd} (h : l[k]? = some p) (g : Bool) : paramsB Nd.right g (l.drop k) = (if !(p.kind == 19) || !p.right then false
  else match p.kids with
   | [] => (l.drop (k + 1)).isEmpty
   | q :: _ => if !(q.kind == 0) then paramsB Nd.right true (l.drop (k + 1)) else if g then false else paramsB Nd.right g (l.drop (k + 1))) := by
 obtain ⟨h1, rfl⟩ := List.getElem?_eq_some_iff.1 h
 rw [List.drop_eq_getElem_cons h1]
 simp only [paramsB]
 rfl
theorem tParams_ok (D : Nat) (hRi : RightOk D) (l : List Nd) (n : Nat) (K : Option Addr) (d : Nat) (w : World) (hn : l.length = n) (hl : KidsAt w l K 0) (hWi : Within D l) (hnd : n ≤ d) (hd : d ≤ maxLen) (hT : Lib.Utf8Tabs 0 1 w) :
  Calls Tryz.prog 136 #[.slice K n d] w fun e w' => e = .returned (.bool (paramsB Nd.right false l)) ∧ Below w.heap.size w w' := by
 unfold maxLen at hd
 have HK := Lh hl
 have HNn := Lh hn
 have HW := Lh hWi
 have HT := Lh hT
 have HRi := Lh hRi
 clear hl hn hWi hT hRi
 go_enter Tryz.func136, Tryz.ntmps136
 go_wp2_with fail
 go_loopw [3, 8] (fun gv iv wr => ∃ (g : Bool) (k : Nat), gv = .bool g ∧ iv = .int .i64 k ∧ k ≤ n ∧ Hid (paramsB Nd.right false l = paramsB Nd.right g (l.drop k)) ∧ Below w.heap.size w wr) (fun _ iv _ => n - (intOf iv).toNat)
 case atStart => exact ⟨false, 0, rfl, rfl, Nat.zero_le _, Lh lq30, Below.refl _ _⟩
 case round =>
  obtain ⟨g, k, rfl, rfl, hk, hR, hbr⟩ := hrel
  by_cases hkl : k < n
  ·have o1 : decide ((k : Int) < (n : Int)) = true := dTo; have o2 : decide (k < n) = true := dTr hkl; obtain ⟨t, ht⟩ : ∃ t, l[k]? = some t := ⟨_, List.getElem?_eq_getElem (by rw [HNn.out]; exact hkl)⟩; obtain ⟨b, off, A', c', K', d', hK, hC, hNt⟩ := HK.out.kid ht; rw [Nat.zero_add] at hC; subst hK; obtain ⟨n0, n1, n2, n3, n4, n5⟩ := hC.later hbr; obtain ⟨hd1, hw1⟩ := HW.out t (mog ht); have hbt := (Below.refl wr.heap.size wr).alloc (Nat.le_refl _) (.cells #[.int .i64 t.kind, .int .i64 t.pos, .string t.text, .bool t.neg, .slice A' t.mag.length c', .slice K' t.kids.length d'] 27)
   have hbq := hbr.trans (hbt.mono hbr.size); obtain ⟨m0, m1, m2, m3, m4, m5⟩ := (cellsN_new wr t A' c' K' d' 27).box; have hI := HRi.out t A' c' K' d' _ hd1 hw1 ((hNt.later hbr).later hbt) (Utf8Tabs_below (Utf8Tabs_below HT.out hbr) hbt); unfold ndV at hI; have HI := Lh hI; have hPD := params_drop ht g; have HKT := Lh (fun (q : Nd) (hq : t.kids[0]? = some q) => hNt.kid hq); have hle := HNn.out; clear hI hC hNt ht hd1 hw1
   by_cases h19 : t.kind = 19
   ·have e1 : (t.kind == 19) = true := by simpa using h19
    have e1' : (t.kind != 19) = false := by simp [h19]
    rw [e1] at hPD; clear h19
    generalize t.right = tr at *
    cases tr with
    | false =>
     have HPD := Lh hPD; clear hPD; go_wp2_with (go_at_call 27; refine HI.out.mono ?_; rintro e w3 ⟨rfl, hb3⟩); go_ret; exact ⟨by rw [hR.out, HPD.out]; rfl, hbq.trans (hb3.mono hbq.size)⟩
    | true =>
     cases hks : t.kids with
     | nil =>
      rw [hks] at hPD; have e2 : ((t.kids.length : Int) == 0) = true := by rw [hks]; rfl
      have e3 : (t.kids.length == 0) = true := by rw [hks]; rfl
      have hPD2 : paramsB Nd.right g (l.drop k) = (l.drop (k + 1)).isEmpty := by rw [hPD]; simp
      have HPD := Lh hPD2; have HHK := Lh hks; clear hPD hPD2 hks
      by_cases hkn : k + 1 = n
      ·have q1 : ((k : Int) == (n : Int) - 1) = true := by simp; omega
       have hem : (l.drop (k + 1)).isEmpty = true := by rw [List.drop_eq_nil_of_le lq29]; rfl
       exact lv154
      ·have q1 : ((k : Int) == (n : Int) - 1) = false := by simp; omega
       have hem : (l.drop (k + 1)).isEmpty = false := by
        cases hdr : l.drop (k + 1) with
        | nil => have := congrArg List.length hdr; simp at this; omega
        | cons a r => rfl
       exact lv154
     | cons q r =>
      rw [hks] at hPD; obtain ⟨b2, off2, A2, c2, K2, d2, hK2, hC2, _⟩ := HKT.out q (by rw [hks]; rfl); rw [Nat.zero_mul, Nat.add_zero] at hC2; subst hK2; have hlen : t.kids.length = r.length + 1 := by rw [hks]; rfl
      have e2 : ((t.kids.length : Int) == 0) = false := beq0F lq29; have e3 : (t.kids.length == 0) = false := by simp [hks]
      have i0 : (0 : Int) < (t.kids.length : Int) := by omega
      have i1 : 0 < t.kids.length := by omega
      have kc2 := cLt hbt (cLt hbr hC2.1); clear hlen hks hC2
      by_cases hq0 : q.kind = 0
      ·have z1 : (q.kind == 0) = true := by simpa using hq0
       have z2 : (q.kind != 0) = false := by simp [hq0]
       dsimp only at hPD; rw [z1] at hPD
       clear hq0
       cases g with
       | true =>
        have HPD := Lh (show paramsB Nd.right true (l.drop k) = false by rw [hPD]; simp); clear hPD; go_wp2_with (go_at_call 27; refine HI.out.mono ?_; rintro e w3 ⟨rfl, hb3⟩; obtain ⟨p5, pk⟩ := cl2 hb3 m5 kc2; have hlb3 : b2 < w3.heap.size := blt pk); go_ret; exact ⟨by rw [hR.out, HPD.out]; rfl, hbq.trans (hb3.mono hbq.size)⟩
       | false =>
        have HPD := Lh (show paramsB Nd.right false (l.drop k) = paramsB Nd.right false (l.drop (k + 1)) by rw [hPD]; simp); clear hPD; go_wp2_with (go_at_call 27; refine HI.out.mono ?_; rintro e w3 ⟨rfl, hb3⟩; obtain ⟨p5, pk⟩ := cl2 hb3 m5 kc2; have hlb3 : b2 < w3.heap.size := blt pk)
        go_roundw
        case rel => exact ⟨false, k + 1, rfl, by go_num, by omega, Lh (hR.out.trans HPD.out), hbq.trans (hb3.mono hbq.size)⟩
        case measure => simp [intOf]; omega
      ·have z1 : (q.kind == 0) = false := by simpa using hq0
       have z2 : (q.kind != 0) = true := by simp [hq0]
       dsimp only at hPD; rw [z1] at hPD
       have HPD := Lh (show paramsB Nd.right g (l.drop k) = paramsB Nd.right true (l.drop (k + 1)) by rw [hPD]; simp); clear hPD hq0; go_wp2_with (go_at_call 27; refine HI.out.mono ?_; rintro e w3 ⟨rfl, hb3⟩; obtain ⟨p5, pk⟩ := cl2 hb3 m5 kc2; have hlb3 : b2 < w3.heap.size := blt pk)
       go_roundw
       case rel => exact ⟨true, k + 1, rfl, by go_num, by omega, Lh (hR.out.trans HPD.out), hbq.trans (hb3.mono hbq.size)⟩
       case measure => simp [intOf]; omega
   ·have e1 : (t.kind == 19) = false := by simpa using h19
    have e1' : (t.kind != 19) = true := by simp [h19]
    rw [e1] at hPD; have HPD := Lh hPD; clear h19 hPD; go_wp2_with fail; go_ret; exact ⟨by rw [hR.out, HPD.out]; rfl, hbq⟩
  ·have o1 : decide ((k : Int) < (n : Int)) = false := dFo; have o2 : decide (k < n) = false := dFa hkl; have hR2 := hR.out; rw [List.drop_eq_nil_of_le (by have := HNn.out; omega), paramsB] at hR2; have HR2 := Lh hR2; clear hR2; go_wp2_with fail; go_ret; exact ⟨by rw [HR2.out]; rfl, hbr⟩
theorem tDef_ok (D : Nat) (hRi : RightOk D) (T : Nd) (A : Option Addr) (c : Nat) (K : Option Addr) (d : Nat) (w : World) (hD : T.depth ≤ D + 1) (hW : T.weight ≤ 1048576) (hN : NodeAt w T A c K d) (hT : Lib.Utf8Tabs 0 1 w) :
  Calls Tryz.prog 74 #[ndV T A c K d] w fun e w' => e = .returned (.bool (Fm.dfn.ev Nd.right T)) ∧ Below w.heap.size w w' := by
 have hWi := within_kids hD hW
 have hkp := hN.parts
 by_cases h0 : T.kids.length = 0
 ·have e1 : decide (0 ≤ (T.kids.length : Int) - 1) = false := dFo; have e2 : decide (1 ≤ T.kids.length) = false := dFo; have e3 : (T.kids.length : Int) - 1 = -1 := by omega
  have HE2 := Lh e2; clear hWi hkp e2 h0; obtain ⟨hm1, hm2, hrm, hw32, hk1, hk2, ⟨hk64a, hk64b⟩, ⟨ha64a, ha64b⟩, hts, hKs, HK⟩ := hN.hd; obtain ⟨hb1, c0, c1, c2, c3, c4, c5⟩ := bxn w T A c K d; unfold ndV; clear hKs hN; go_enter Tryz.func74, Tryz.ntmps74; go_wp2_with fail; go_ret; exact ⟨by show Ending.returned (.bool _) = _; simp [Fm.ev, HE2.out], hb1⟩
 ·obtain ⟨m, hm⟩ : ∃ m, T.kids.length = m + 1 := ⟨T.kids.length - 1, by omega⟩; obtain ⟨t, ht⟩ : ∃ t, T.kids[m]? = some t := ⟨_, gEo⟩; obtain ⟨b, off, A', c', K', d', hKe, hC, hNt⟩ := hN.kid ht; subst hKe; have hdl : T.kids.dropLast = T.kids.take m := by rw [List.dropLast_eq_take, hm]; rfl
  have hdr : T.kids.drop (T.kids.length - 1) = [t] := by
   obtain ⟨q1, q2⟩ := List.getElem?_eq_some_iff.1 ht; rw [hm, Nat.add_sub_cancel, List.drop_eq_getElem_cons q1, q2, List.drop_eq_nil_of_le lq29]
  have hEv : Fm.dfn.ev Nd.right T = (paramsB Nd.right false (T.kids.take m) && Sh.block.ev Nd.right t) := by
   simp only [Fm.ev, hdl, hdr]; rw [dTo]
   simp
  rw [hEv]; have hbx := (Below.refl w.heap.size w).alloc (Nat.le_refl _) (bx T.kind T A c (some ⟨b, off, none⟩) d); have hwt : Within D (T.kids.take m) := fun t ht => hWi t (List.mem_of_mem_take ht)
  have hmd : m + 1 ≤ d := by have := hkp.2.2.2.2.1; omega
  have HPar := Lh (fun W (hb : Below w.heap.size w W) => tParams_ok D hRi (T.kids.take m) m (some ⟨b, off, none⟩) d W lq21 ((hkp.2.2.2.2.2.2.2.2.2.later hb).take m) hwt lq29 hkp.2.2.2.2.2.1 (Utf8Tabs_below hT hb)); have hds := hWi t (mog ht)
  have HBl := Lh (fun W (hb : Below w.heap.size w W) => by
   have := tBlock_ok D hRi t A' c' K' d' W hds.1 hds.2 (hNt.later hb) (Utf8Tabs_below hT hb); unfold ndV at this
   exact this)
  have o1 : (T.kids.length : Int) - 1 = (m : Int) := by omega
  have o3 : (0 : Int) ≤ (m : Int) := by omega
  have o4 : (m : Int) ≤ (d : Int) := by omega
  have o5 : (m : Int) < (T.kids.length : Int) := by omega
  have o6 : m ≤ d := by omega
  have o7 : m < T.kids.length := by omega
  have o8 : decide (0 ≤ (m : Int)) = true := dTr o3; have hC1 := hC.later hbx; obtain ⟨n0, n1, n2, n3, n4, n5⟩ := hC1
  generalize hpr : paramsB Nd.right false (T.kids.take m) = pr at *
  generalize hbr : Sh.block.ev Nd.right t = br at *
  clear hpr hbr hEv hdl hdr hm h0 ht hC hNt hds hwt hkp hWi hbx hRi hT
  cases pr
  ·obtain ⟨hm1, hm2, hrm, hw32, hk1, hk2, ⟨hk64a, hk64b⟩, ⟨ha64a, ha64b⟩, hts, hKs, HK⟩ := hN.hd; obtain ⟨hb1, c0, c1, c2, c3, c4, c5⟩ := bxn w T A c (some ⟨b, off, none⟩) d; unfold ndV; clear hKs hN; go_enter Tryz.func74, Tryz.ntmps74; go_wp2_with (first | (go_at_call 136; refine (HPar.out _ hb1).mono ?_; rintro e w3 ⟨rfl, hb3⟩; have hw3 := hb1.trans (hb3.mono hb1.size); obtain ⟨p5, k0, k1, k2, k3, k4⟩ := cl6 hb3 c5 n0 n1 n2 n3 n4; have k5 := cLt hb3 n5; have hlb := blt k0; have hlw := blt p5)); go_ret; exact ⟨rfl, hw3⟩
  ·obtain ⟨hm1, hm2, hrm, hw32, hk1, hk2, ⟨hk64a, hk64b⟩, ⟨ha64a, ha64b⟩, hts, hKs, HK⟩ := hN.hd; obtain ⟨hb1, c0, c1, c2, c3, c4, c5⟩ := bxn w T A c (some ⟨b, off, none⟩) d; unfold ndV; clear hKs hN; go_enter Tryz.func74, Tryz.ntmps74; go_wp2_with (first | (go_at_call 136; refine (HPar.out _ hb1).mono ?_; rintro e w3 ⟨rfl, hb3⟩; have hw3 := hb1.trans (hb3.mono hb1.size); obtain ⟨p5, k0, k1, k2, k3, k4⟩ := cl6 hb3 c5 n0 n1 n2 n3 n4; have k5 := cLt hb3 n5; have hlb := blt k0; have hlw := blt p5) | (go_at_call 71; refine (HBl.out _ hw3).mono ?_; rintro e w4 ⟨rfl, hb4⟩)); go_ret
   exact ⟨rfl, hw3.trans (hb4.mono hw3.size)⟩
theorem catch_drop {l : List Nd} {k : Nat} {x : Nd} (h : l[k]? = some x) : catchB Nd.right (l.drop k) = (x.kind == 22 && x.right && !((match x.kids with | [] => false | q :: _ => q.kind == 0) && !(l.drop (k + 1)).isEmpty) && catchB Nd.right (l.drop (k + 1))) := by
 obtain ⟨h1, rfl⟩ := List.getElem?_eq_some_iff.1 h
 rw [List.drop_eq_getElem_cons h1]
 simp only [catchB]
 rfl
theorem except_kids {x : Nd} (hk : x.kind = 22) (hr : x.right = true) : x.kids.length = 2 := by
 rw [right_eq, hk] at hr
 have hf : formOf 22 = some (.exc, .exc) := rfl
 rw [hf] at hr
 simp only [Fm.ev, Bool.and_eq_true] at hr
 rcases Nat.decEq x.kids.length 2 with h | h
 ·have := rowB_len (l := x.kids) (L := [(Sh.or2 .none .expr).ev Nd.right, Sh.block.ev Nd.right]) (by simpa using h); rw [this] at hr
  simp at hr
 ·exact h
theorem isEmpty_drop (l : List Nd) (k : Nat) : (l.drop k).isEmpty = decide (l.length ≤ k) := by
 by_cases h : l.length ≤ k
 ·rw [List.drop_eq_nil_of_le h, dTr h]; rfl
 ·rw [dFa h, List.drop_eq_getElem_cons lq29]; rfl
theorem tTry_ok (D : Nat) (hRi : RightOk D) (T : Nd) (A : Option Addr) (c : Nat) (K : Option Addr) (d : Nat) (w : World) (hD : T.depth ≤ D + 1) (hW : T.weight ≤ 1048576) (hN : NodeAt w T A c K d) (hT : Lib.Utf8Tabs 0 1 w) :
  Calls Tryz.prog 76 #[ndV T A c K d] w fun e w' => e = .returned (.bool (Fm.tri.ev Nd.right T)) ∧ Below w.heap.size w w' := by
 have hWi := within_kids hD hW
 have hkp := hN.parts
 by_cases h0 : T.kids.length < 2
 ·have e1 : decide ((T.kids.length : Int) < 2) = true := dTo; have e1' : decide (T.kids.length < 2) = true := dTo; have e2 : decide (2 ≤ T.kids.length) = false := dFo; have HE2 := Lh e2; clear hWi hkp e2 h0; obtain ⟨hm1, hm2, hrm, hw32, hk1, hk2, ⟨hk64a, hk64b⟩, ⟨ha64a, ha64b⟩, hts, hKs, HK⟩ := hN.hd; obtain ⟨hb1, c0, c1, c2, c3, c4, c5⟩ := bxn w T A c K d; unfold ndV; clear hKs hN; go_enter Tryz.func76, Tryz.ntmps76; go_wp2_with fail; go_ret; exact ⟨by show Ending.returned (.bool _) = _; simp [Fm.ev, HE2.out], hb1⟩
 ·obtain ⟨m, hm⟩ : ∃ m, T.kids.length = m + 2 := ⟨T.kids.length - 2, by omega⟩; obtain ⟨t0, ht0⟩ : ∃ t0, T.kids[0]? = some t0 := ⟨_, gEo⟩; obtain ⟨b, off, A0, c0', K0, d0', hKe, hC0, hN0⟩ := hN.kid ht0; rw [Nat.zero_mul, Nat.add_zero] at hC0; subst hKe; have htk : T.kids.take 1 = [t0] := by
   obtain ⟨q1, q2⟩ := List.getElem?_eq_some_iff.1 ht0
   cases hks : T.kids with
   | nil => rw [hks] at q1; simp at q1
   | cons a r => simp [hks] at q2; simp [q2]
  have hEv : Fm.tri.ev Nd.right T = (Sh.block.ev Nd.right t0 && catchB Nd.right (T.kids.drop 1)) := by
   simp only [Fm.ev, htk]; rw [dTo]
   simp
  rw [hEv]; have hbx := (Below.refl w.heap.size w).alloc (Nat.le_refl _) (bx T.kind T A c (some ⟨b, off, none⟩) d); have hds := hWi t0 (mog ht0)
  have HBl := Lh (fun W (hb : Below w.heap.size w W) => by
   have := tBlock_ok D hRi t0 A0 c0' K0 d0' W hds.1 hds.2 (hN0.later hb) (Utf8Tabs_below hT hb); unfold ndV at this
   exact this)
  have o1 : decide ((T.kids.length : Int) < 2) = false := dFo; have o2 : decide (T.kids.length < 2) = false := dFo; have o3 : (0 : Int) < (T.kids.length : Int) := by omega
  have o4 : 0 < T.kids.length := by omega
  have s0 : T.kids.length ≤ d := hkp.2.2.2.2.1; have s1 : (1 : Int) ≤ (d : Int) := by omega
  have s2 : (1 : Int) ≤ (T.kids.length : Int) := by omega
  have s3 : (T.kids.length : Int) ≤ (d : Int) := by omega
  have s4 : ¬ d = 1 := by omega
  obtain ⟨n0, n1, n2, n3, n4, n5⟩ := hC0.later hbx; have HT := Lh hT; have HRi := Lh hRi; have HWi := Lh hWi; have HM := Lh hm
  generalize hbr : Sh.block.ev Nd.right t0 = br at *
  clear hbr hEv htk h0 ht0 hC0 hN0 hds hkp hWi hbx hRi hT hm
  cases br
  ·obtain ⟨hm1, hm2, hrm, hw32, hk1, hk2, ⟨hk64a, hk64b⟩, ⟨ha64a, ha64b⟩, hts, hKs, HK⟩ := hN.hd; obtain ⟨hb1, c0, c1, c2, c3, c4, c5⟩ := bxn w T A c (some ⟨b, off, none⟩) d; unfold ndV; clear hKs hN; go_enter Tryz.func76, Tryz.ntmps76; go_wp2_with (go_at_call 71; refine (HBl.out _ hb1).mono ?_; rintro e w3 ⟨rfl, hb3⟩; have hw3 := hb1.trans (hb3.mono hb1.size); have p5 := cLt hb3 c5; have hlw := blt p5); go_ret; exact ⟨rfl, hw3⟩
  ·obtain ⟨hm1, hm2, hrm, hw32, hk1, hk2, ⟨hk64a, hk64b⟩, ⟨ha64a, ha64b⟩, hts, hKs, HK⟩ := hN.hd; obtain ⟨hb1, c0, c1, c2, c3, c4, c5⟩ := bxn w T A c (some ⟨b, off, none⟩) d; unfold ndV; clear hKs hN; go_enter Tryz.func76, Tryz.ntmps76; go_wp2_with (go_at_call 71; refine (HBl.out _ hb1).mono ?_; rintro e w3 ⟨rfl, hb3⟩; have hw3 := hb1.trans (hb3.mono hb1.size); have p5 := cLt hb3 c5; have hlw := blt p5); have HB3 := Lh hw3
   go_loopw [21] (fun iv wr => ∃ k : Nat, iv = .int .i64 k ∧ k ≤ T.kids.length - 1 ∧ Hid (catchB Nd.right (T.kids.drop 1) = catchB Nd.right (T.kids.drop (k + 1))) ∧ Below w3.heap.size w3 wr) (fun iv _ => T.kids.length - 1 - (intOf iv).toNat)
   case atStart => exact ⟨0, rfl, Nat.zero_le _, Lh rfl, Below.refl _ _⟩
   case round =>
    obtain ⟨k, rfl, hk, hR, hbr⟩ := hrel; have hbw := hw3.trans (hbr.mono hw3.size); have d5 := cLt hbr p5; have hlw2 := blt d5
    by_cases hkl : k < T.kids.length - 1
    ·have u1 : decide ((k : Int) < ((T.kids.length - 1 : Nat) : Int)) = true := dTo; have u2 : decide (k < T.kids.length - 1) = true := dTr hkl; have u3 : decide ((k : Int) < (T.kids.length : Int) - 1) = true := dTo; obtain ⟨t, ht⟩ : ∃ t, T.kids[k + 1]? = some t := ⟨_, gEo⟩; obtain ⟨b2, off2, A', c', K', d', hKe, hC, hNt⟩ := HK.out (k + 1) t ht; injection hKe with hKe
     injection hKe with e1 e2
     subst e1 e2; rw [show off + (k + 1) * 6 = off + 6 + k * 6 by omega] at hC; obtain ⟨m0, m1, m2, m3, m4, m5⟩ := hC.later hbw; obtain ⟨hd1, hw1⟩ := HWi.out t (mog ht); have hbt := (Below.refl wr.heap.size wr).alloc (Nat.le_refl _) (.cells #[.int .i64 t.kind, .int .i64 t.pos, .string t.text, .bool t.neg, .slice A' t.mag.length c', .slice K' t.kids.length d'] 27); have hbq := hbw.trans (hbt.mono hbw.size); obtain ⟨z0, z1, z2, z3, z4, z5⟩ := (cellsN_new wr t A' c' K' d' 27).box
     have hI := HRi.out t A' c' K' d' _ hd1 hw1 ((hNt.later hbw).later hbt) (Utf8Tabs_below (Utf8Tabs_below HT.out hbw) hbt); unfold ndV at hI; have HI := Lh hI; have hPD := catch_drop ht; have HKT := Lh (fun (q : Nd) (hq : t.kids[0]? = some q) => hNt.kid hq); clear hI hC hNt ht hd1 hw1
     by_cases h22 : t.kind = 22
     ·have e1 : (t.kind == 22) = true := by simpa using h22
      have e1' : (t.kind != 22) = false := by simp [h22]
      have HK22 := Lh h22; rw [e1] at hPD; clear h22
      cases htr : t.right with
      | false =>
       rw [htr] at hPD HI; have HPD := Lh hPD; clear hPD htr; go_wp2_with (go_at_call 27; refine HI.out.mono ?_; rintro e w4 ⟨rfl, hb4⟩); go_ret; exact ⟨by rw [hR.out, HPD.out]; rfl, hbq.trans (hb4.mono hbq.size)⟩
      | true =>
       have hx2 := except_kids HK22.out htr; rw [htr] at hPD HI; obtain ⟨q, hq⟩ : ∃ q, t.kids[0]? = some q := ⟨_, gEo⟩; obtain ⟨b2, off2, A2, c2, K2, d2, hK2, hC2, _⟩ := HKT.out q hq; rw [Nat.zero_mul, Nat.add_zero] at hC2; subst hK2; have i0 : (0 : Int) < (t.kids.length : Int) := by omega
       have i1 : 0 < t.kids.length := by omega
       have kc2 := cLt hbt (cLt hbw hC2.1); have hmq : (match t.kids with | [] => false | q :: _ => q.kind == 0) = (q.kind == 0) := by
        cases hks : t.kids with
        | nil => rw [hks] at hq; simp at hq
        | cons a r => rw [hks] at hq; simp at hq; rw [hq]
       rw [hmq, isEmpty_drop] at hPD; clear hx2 htr hq hC2 hmq
       by_cases hq0 : q.kind = 0
       ·have z1 : (q.kind == 0) = true := by simpa using hq0
        rw [z1] at hPD; clear hq0
        by_cases hkn : k < T.kids.length - 2
        ·have q1 : decide ((k : Int) < (T.kids.length : Int) - 2) = true := dTo; have q2 : decide (k < T.kids.length - 2) = true := dTr hkn; have HPD := Lh (show catchB Nd.right (T.kids.drop (k + 1)) = false by rw [hPD, dFo]; simp); clear hPD hkn; go_wp2_with (go_at_call 27; refine HI.out.mono ?_; rintro e w4 ⟨rfl, hb4⟩; obtain ⟨y5, yk⟩ := cl2 hb4 z5 kc2; have hlb3 : b2 < w4.heap.size := blt yk; have x5 := cLt hb4 (cLt hbt d5)); go_ret; exact ⟨by rw [hR.out, HPD.out]; rfl, hbq.trans (hb4.mono hbq.size)⟩
        ·have q1 : decide ((k : Int) < (T.kids.length : Int) - 2) = false := dFo; have q2 : decide (k < T.kids.length - 2) = false := dFa hkn; have HPD := Lh (show catchB Nd.right (T.kids.drop (k + 1)) = catchB Nd.right (T.kids.drop (k + 1 + 1)) by rw [hPD, dTo]; simp); clear hPD hkn; exact lv131
       ·have z1 : (q.kind == 0) = false := by simpa using hq0
        rw [z1] at hPD; have HPD := Lh (show catchB Nd.right (T.kids.drop (k + 1)) = catchB Nd.right (T.kids.drop (k + 1 + 1)) by rw [hPD]; simp); clear hPD hq0; exact lv131
     ·have e1 : (t.kind == 22) = false := by simpa using h22
      have e1' : (t.kind != 22) = true := by simp [h22]
      rw [e1] at hPD; have HPD := Lh hPD; clear h22 hPD; go_wp2_with fail; go_ret; exact ⟨by rw [← List.drop_one, hR.out, HPD.out]; rfl, hbq⟩
    ·have u1 : decide ((k : Int) < ((T.kids.length - 1 : Nat) : Int)) = false := dFo; have u2 : decide (k < T.kids.length - 1) = false := dFa hkl; have u3 : decide ((k : Int) < (T.kids.length : Int) - 1) = false := dFo; have hR2 := hR.out; rw [List.drop_eq_nil_of_le (by omega : T.kids.length ≤ k + 1), catchB] at hR2; have HR2 := Lh hR2; clear hR2; go_wp2_with fail; go_ret; exact ⟨by rw [← List.drop_one, HR2.out]; rfl, hbw⟩
def callG : Nat → List Nd → List Nd
 | 0, l => (l.dropWhile (Sh.expr.ev Nd.right)).dropWhile ((Sh.of 52).ev Nd.right)
 | 1, l => l.dropWhile ((Sh.of 52).ev Nd.right)
 | _, l => l
def callP : Nat → Nd → Bool
 | 0 => Sh.expr.ev Nd.right
 | _ => (Sh.of 52).ev Nd.right
theorem callG_step {i : Nat} (hi : i < 2) (l : List Nd) : callG i l = callG (i + 1) (l.dropWhile (callP i)) := by
 match i, hi with
 | 0, _ => rfl
 | 1, _ => rfl
theorem callP_at {i : Nat} (hi : i < 2) : [Sh.expr.ev Nd.right, (Sh.of 52).ev Nd.right][i]? = some (callP i) := by
 match i, hi with
 | 0, _ => rfl
 | 1, _ => rfl
def lenS : Value → Nat | .slice _ n _ => n | _ => 0
def SliceAt (w : World) (D : Nat) (K : Option Addr) (l : List Nd) (n d : Nat) : Prop := l.length = n ∧ n ≤ d ∧ d ≤ maxLen ∧ KidsAt w l K 0 ∧ Within D l
theorem tCall_ok (D : Nat) (hRi : RightOk D) (T : Nd) (A : Option Addr) (c : Nat) (K : Option Addr) (d : Nat) (w : World) (hD : T.depth ≤ D + 1) (hW : T.weight ≤ 1048576) (hN : NodeAt w T A c K d) (hT : Lib.Utf8Tabs 0 1 w) :
  Calls Tryz.prog 139 #[ndV T A c K d] w fun e w' => e = .returned (.bool (Fm.cll.ev Nd.right T)) ∧ Below w.heap.size w w' := by
 have hWi := within_kids hD hW
 have hkp := hN.parts
 by_cases h0 : T.kids.length = 0
 ·have e1 : ((T.kids.length : Int) == 0) = true := by rw [h0]; rfl
  have e1' : (T.kids.length == 0) = true := by rw [h0]; rfl
  have e2 : decide (1 ≤ T.kids.length) = false := dFo; have HE2 := Lh e2; clear hWi hkp e2 h0; obtain ⟨hm1, hm2, hrm, hw32, hk1, hk2, ⟨hk64a, hk64b⟩, ⟨ha64a, ha64b⟩, hts, hKs, HK⟩ := hN.hd; obtain ⟨hb1, c0, c1, c2, c3, c4, c5⟩ := bxn w T A c K d; unfold ndV; clear hKs hN; go_enter Tryz.func139, Tryz.ntmps139; go_wp2_with fail; go_ret; exact ⟨by show Ending.returned (.bool _) = _; simp [Fm.ev, HE2.out], hb1⟩
 ·obtain ⟨m, hm⟩ : ∃ m, T.kids.length = m + 1 := ⟨T.kids.length - 1, by omega⟩; obtain ⟨t0, ht0⟩ : ∃ t0, T.kids[0]? = some t0 := ⟨_, gEo⟩; obtain ⟨b, off, A0, c0', K0, d0', hKe, hC0, hN0⟩ := hN.kid ht0; rw [Nat.zero_mul, Nat.add_zero] at hC0; subst hKe; have htk : T.kids.take 1 = [t0] := by
   obtain ⟨q1, q2⟩ := List.getElem?_eq_some_iff.1 ht0
   cases hks : T.kids with
   | nil => rw [hks] at q1; simp at q1
   | cons a r => simp [hks] at q2; simp [q2]
  have hEv : Fm.cll.ev Nd.right T = (Sh.expr.ev Nd.right t0 && ((callG 0 (T.kids.drop 1)).isEmpty || rowB (callG 0 (T.kids.drop 1)) [(Sh.of 40).ev Nd.right])) := by
   simp only [Fm.ev, htk, callG]; rw [dTo]
   simp
  rw [hEv]; have hbx := (Below.refl w.heap.size w).alloc (Nat.le_refl _) (bx T.kind T A c (some ⟨b, off, none⟩) d); have hds := hWi t0 (mog ht0)
  have HEx := Lh (fun W (hb : Below w.heap.size w W) => by
   have := tExpr_ok D hRi t0 A0 c0' K0 d0' W hds.1 hds.2 (hN0.later hb) (Utf8Tabs_below hT hb); unfold ndV at this
   exact this)
  have o1 : ((T.kids.length : Int) == 0) = false := beq0F h0; have o2 : (T.kids.length == 0) = false := by simpa using h0
  have o3 : (0 : Int) < (T.kids.length : Int) := by omega
  have o4 : 0 < T.kids.length := by omega
  have s0 : T.kids.length ≤ d := hkp.2.2.2.2.1; have s1 : (1 : Int) ≤ (d : Int) := by omega
  have s2 : (1 : Int) ≤ (T.kids.length : Int) := by omega
  have s3 : (T.kids.length : Int) ≤ (d : Int) := by omega
  obtain ⟨n0, n1, n2, n3, n4, n5⟩ := hC0.later hbx; have HT := Lh hT; have HRi := Lh hRi; have HS0 : Hid (∀ K1, K1 = (if d = 1 then some ⟨b, off, none⟩ else some ⟨b, off + 6, none⟩) → SliceAt w D K1 (T.kids.drop 1) (T.kids.length - 1) (d - 1)) := Lh (fun K1 e => ⟨by rw [List.length_drop], by omega, by have := hkp.2.2.2.2.2.1; omega, e ▸ hkp.2.2.2.2.2.2.2.2.2.cut 1 d hkp.2.2.2.2.1, fun t ht => hWi t (List.mem_of_mem_drop ht)⟩)
  generalize hbr : Sh.expr.ev Nd.right t0 = br at *
  clear hbr hEv htk h0 ht0 hC0 hN0 hds hkp hWi hbx hRi hT hm
  cases br
  ·obtain ⟨hm1, hm2, hrm, hw32, hk1, hk2, ⟨hk64a, hk64b⟩, ⟨ha64a, ha64b⟩, hts, hKs, HK⟩ := hN.hd; obtain ⟨hb1, c0, c1, c2, c3, c4, c5⟩ := bxn w T A c (some ⟨b, off, none⟩) d; unfold ndV; clear hKs hN; go_enter Tryz.func139, Tryz.ntmps139; go_wp2_with (go_at_call 67; refine (HEx.out _ hb1).mono ?_; rintro e w3 ⟨rfl, hb3⟩; have hw3 := hb1.trans (hb3.mono hb1.size); have p5 := cLt hb3 c5; have hlw := blt p5); go_ret; exact ⟨rfl, hw3⟩
  ·rw [Bool.true_and]
   by_cases hd1 : d = 1
   ·subst hd1; obtain ⟨hm1, hm2, hrm, hw32, hk1, hk2, ⟨hk64a, hk64b⟩, ⟨ha64a, ha64b⟩, hts, hKs, HK⟩ := hN.hd; have hb1 := (Below.refl w.heap.size w).alloc (Nat.le_refl _) (.cells #[.int .i64 T.kind, .int .i64 T.pos, .string T.text, .bool T.neg, .slice A T.mag.length c, .slice (some ⟨b, off, none⟩) T.kids.length 1] 27); obtain ⟨c0, c1, c2, c3, c4, c5⟩ := (cellsN_new w T A c (some ⟨b, off, none⟩) 1 27).box; unfold ndV; clear hKs hN; go_enter Tryz.func139, Tryz.ntmps139
    go_wp2_with (first | (go_at_call 67; refine (HEx.out _ hb1).mono ?_; rintro e w3 ⟨rfl, hb3⟩; have hw3 := hb1.trans (hb3.mono hb1.size); have p5 := cLt hb3 c5; have hlw := blt p5) | (go_at_call 64; refine (of_ok HRi.out (Utf8Tabs_below HT.out hw3) 52).mono ?_; rintro e w4 ⟨⟨v, rfl, hv⟩, hb4⟩; have hw4 := hw3.trans (hb4.mono hw3.size); have HSH := Lh (shapes_two (shExpr HRi.out (Utf8Tabs_below HT.out hw4)) hv 69 w4.heap.size rfl); obtain ⟨f1, cp1, hv1, _⟩ := hv; subst hv1))
    have hb5 := (Below.refl w4.heap.size w4).alloc (Nat.le_refl _) (.cells #[.func (.func 67) #[] #[], .func (.func f1) #[] cp1] 69)
    generalize w4.alloc (.cells #[.func (.func 67) #[] #[], .func (.func f1) #[] cp1] 69) = w5 at *
    have hw5 := hw4.trans (hb5.mono hw4.size)
    go_loopw [3, 24] (fun lv iv wr => ∃ (i n' d' : Nat) (K' : Option Addr) (l' : List Nd), iv = .int .i64 i ∧ lv = .slice K' n' d' ∧ i ≤ 2 ∧ SliceAt w D K' l' n' d' ∧ Hid (callG 0 (T.kids.drop 1) = callG i l') ∧ Below w5.heap.size w5 wr) (fun _ iv _ => 2 - (intOf iv).toNat)
    case atStart => exact ⟨0, _, _, (some ⟨b, off, none⟩), _, rfl, rfl, by omega, (by have h := HS0.out (some ⟨b, off, none⟩) lq30; have e : T.kids.length - 1 = 0 := lq29; rw [e] at h; exact h), Lh rfl, Below.refl _ _⟩
    case round =>
     exact lv7
   ·obtain ⟨hm1, hm2, hrm, hw32, hk1, hk2, ⟨hk64a, hk64b⟩, ⟨ha64a, ha64b⟩, hts, hKs, HK⟩ := hN.hd; obtain ⟨hb1, c0, c1, c2, c3, c4, c5⟩ := bxn w T A c (some ⟨b, off, none⟩) d; unfold ndV; clear hKs hN; go_enter Tryz.func139, Tryz.ntmps139
    go_wp2_with (first | (go_at_call 67; refine (HEx.out _ hb1).mono ?_; rintro e w3 ⟨rfl, hb3⟩; have hw3 := hb1.trans (hb3.mono hb1.size); have p5 := cLt hb3 c5; have hlw := blt p5) | (go_at_call 64; refine (of_ok HRi.out (Utf8Tabs_below HT.out hw3) 52).mono ?_; rintro e w4 ⟨⟨v, rfl, hv⟩, hb4⟩; have hw4 := hw3.trans (hb4.mono hw3.size); have HSH := Lh (shapes_two (shExpr HRi.out (Utf8Tabs_below HT.out hw4)) hv 69 w4.heap.size rfl); obtain ⟨f1, cp1, hv1, _⟩ := hv; subst hv1))
    have hb5 := (Below.refl w4.heap.size w4).alloc (Nat.le_refl _) (.cells #[.func (.func 67) #[] #[], .func (.func f1) #[] cp1] 69)
    generalize w4.alloc (.cells #[.func (.func 67) #[] #[], .func (.func f1) #[] cp1] 69) = w5 at *
    have hw5 := hw4.trans (hb5.mono hw4.size)
    go_loopw [3, 24] (fun lv iv wr => ∃ (i n' d' : Nat) (K' : Option Addr) (l' : List Nd), iv = .int .i64 i ∧ lv = .slice K' n' d' ∧ i ≤ 2 ∧ SliceAt w D K' l' n' d' ∧ Hid (callG 0 (T.kids.drop 1) = callG i l') ∧ Below w5.heap.size w5 wr) (fun _ iv _ => 2 - (intOf iv).toNat)
    case atStart => exact ⟨0, _, _, (some ⟨b, off + 6, none⟩), _, rfl, rfl, by omega, HS0.out (some ⟨b, off + 6, none⟩) (by simp [hd1]), Lh rfl, Below.refl _ _⟩
    case round =>
     exact lv7
end
end Go.Proofs.YtjefhdlncikhmaaGreatDoor
