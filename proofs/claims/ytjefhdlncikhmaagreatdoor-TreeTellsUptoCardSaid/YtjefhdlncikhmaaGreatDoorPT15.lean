/- Joined by a program: R6, Q3, Q4p, Q4a, Q4b. -/
import Derived.Test.YtjefhdlncikhmaaGreatDoorPT09
import Derived.Test.YtjefhdlncikhmaaGreatDoorPT14
namespace Go.Proofs.YtjefhdlncikhmaaGreatDoor
set_option linter.unusedVariables false
set_option linter.unusedSimpArgs false
set_option maxRecDepth 1000000
set_option maxHeartbeats 16000000
section
open Go.RowKit
open List (length_append length_cons length_nil length_singleton)
theorem CanAt.setCell {w : World} {base : Nat} {O : Option Int} {A : Option Addr} {c : Nat} (h : CanAt w base O A c) {p : Addr} (hp : p.block < base) (u : Value) : CanAt (w.setCell p u) base O A c := ⟨h.1, h.2.1, h.2.2.setCell hp u⟩
theorem refForm_can (neg : Bool) (A : Option Addr) (c : Nat) (zs : List Int) (w : World) (hW : W32 zs) (hr : RdI w .u32 A zs) (hl : zs.length ≤ c) (hc : c ≤ 9223372036854775807) (hm : zs.length ≤ 1000000) :
  Calls Tryz.prog 194 #[.agg #[.bool neg, .slice A zs.length c]] w fun e w' => ∃ A c, e = .returned (.agg #[.bool (cb (some (valI neg zs))), .slice A (cz (some (valI neg zs))).length c]) ∧ CanAt w' w.heap.size (some (valI neg zs)) A c ∧ Below w.heap.size w w' :=
 (refForm_int neg A c zs w hW hr hl hc hm).mono fun e w' h => retI_can h
def compL (l : List Nd) : Bool := decide (3 ≤ l.length) && (((l.drop 1).take 1).all (Sh.targets.ev Nd.right) && (l.drop 2).all (Sh.expr.ev Nd.right))
theorem comp_kid {l : List Nd} {t : Nd} (h : l[1]? = some t) : ((l.drop 1).take 1) = [t] := by
 match l, h with
 | a :: b :: r, h => simp at h; simp [h]
theorem cmp_eq (s : Sh) (T : Nd) : (Fm.cmp s).ev Nd.right T = (decide (1 ≤ T.kids.length) && ((T.kids.take 1).all (s.ev Nd.right) && compL T.kids)) := by
 simp only [Fm.ev, compL]
 generalize T.kids = l
 match l with
 | [] => simp
 | [a] => simp
 | [a, b] => simp
 | a :: b :: c :: r => simp [rowB, Bool.and_assoc]
theorem rComp_ok (D : Nat) (hE : RExprOk D) (l : List Nd) (n : Nat) (K : Option Addr) (d : Nat) (w : World) (hn : l.length = n) (hl : KidsAt w l K 0) (hWi : WithinM D l) (hnd : n ≤ d) (hd : d ≤ maxLen) :
  Calls Tryz.prog 156 #[.slice K n d] w fun e w' => e = .returned (.bool (compL l)) ∧ Below w.heap.size w w' := by
 have hd' := hd
 unfold maxLen at hd
 by_cases h3 : 3 ≤ n
 ·have e1 : decide (3 ≤ (n : Int)) = true := dTo; have e2 : decide (3 ≤ n) = true := dTr h3; obtain ⟨t, ht⟩ : ∃ t, l[1]? = some t := ⟨_, gEo⟩; obtain ⟨b, off, A', c', K', d', hKe, hC, hNt⟩ := hl.kid ht; rw [Nat.zero_add, Nat.one_mul] at hC; subst hKe; obtain ⟨n0, n1, n2, n3, n4, n5⟩ := hC; obtain ⟨hd1, hw1⟩ := hWi t (mog ht)
  have HTg := Lh (by
   have := rTargets_ok D hE t A' c' K' d' w hd1 hw1 hNt; unfold ndV at this
   exact this)
  have HEx := Lh (fun W (hb : Below w.heap.size w W) => rExprs_ok D hE (l.drop 2) (n - 2) (some ⟨b, off + 12, none⟩) (d - 2) W (by rw [List.length_drop, hn]) ((hl.drop 2).later hb) (fun t ht => hWi t (List.mem_of_mem_drop ht)) lq29 lq29); have HV0 := Lh (show compL l = (Sh.targets.ev Nd.right t && (l.drop 2).all (Sh.expr.ev Nd.right)) by rw [compL, comp_kid ht, hn, e2]; simp); have i1 : (1 : Int) < (n : Int) := by omega
  have i2 : 1 < n := by omega
  have i3 : (2 : Int) ≤ (n : Int) := by omega
  have i4 : (2 : Int) ≤ (d : Int) := by omega
  have i5 : (n : Int) ≤ (d : Int) := by omega
  have i6 : ¬ d = 2 := by omega
  have i7 : 2 ≤ n := by omega
  have hbl : b < w.heap.size := blt n0; clear hE hl hWi hn ht hNt hd1 hw1
  generalize Sh.targets.ev Nd.right t = x at *
  generalize (l.drop 2).all (Sh.expr.ev Nd.right) = y at *
  cases x
  ·go_enter Tryz.func156, Tryz.ntmps156; go_wp2_with (go_at_call 97; refine HTg.out.mono ?_; rintro e w3 ⟨rfl, hb3⟩); go_ret; exact ⟨by rw [HV0.out]; rfl, hb3⟩
  ·cases y
   all_goals
    go_enter Tryz.func156, Tryz.ntmps156; go_wp2_with (first | (go_at_call 97; refine HTg.out.mono ?_; rintro e w3 ⟨rfl, hb3⟩) | (go_at_call 152; refine (HEx.out _ hb3).mono ?_; rintro e w4 ⟨rfl, hb4⟩)); go_ret; exact ⟨by rw [HV0.out]; rfl, hb3.trans (hb4.mono hb3.size)⟩
 ·have e1 : decide (3 ≤ (n : Int)) = false := dFo; have e2 : decide (3 ≤ n) = false := dFa h3; have HV := Lh (show compL l = false by rw [compL, hn, e2]; rfl); clear h3 hE hl hWi hn; go_enter Tryz.func156, Tryz.ntmps156; go_wp2_with fail; go_ret; exact ⟨by rw [HV.out]; rfl, Below.refl _ _⟩
def callL (l : List Nd) : Bool := decide (1 ≤ l.length) && ((l.take 1).all (Sh.expr.ev Nd.right) && ((callG 0 (l.drop 1)).isEmpty || rowB (callG 0 (l.drop 1)) [(Sh.of 40).ev Nd.right]))
theorem cll_eq (T : Nd) : Fm.cll.ev Nd.right T = callL T.kids := by
 simp only [Fm.ev, callL, callG, Bool.and_assoc]
theorem drop_whileT {l : List Nd} {k : Nat} {t : Nd} {p : Nd → Bool} (h : l[k]? = some t) (hp : p t = true) : (l.drop k).dropWhile p = (l.drop (k + 1)).dropWhile p := by
 obtain ⟨h1, rfl⟩ := List.getElem?_eq_some_iff.1 h
 rw [List.drop_eq_getElem_cons h1, List.dropWhile_cons, if_pos hp]
theorem drop_whileF {l : List Nd} {k : Nat} {t : Nd} {p : Nd → Bool} (h : l[k]? = some t) (hp : p t = false) : (l.drop k).dropWhile p = l.drop k := by
 obtain ⟨h1, rfl⟩ := List.getElem?_eq_some_iff.1 h
 rw [List.drop_eq_getElem_cons h1, List.dropWhile_cons, if_neg (by rw [hp]; decide)]
theorem rCall_ok (D : Nat) (hE : RExprOk D) (l : List Nd) (n : Nat) (K : Option Addr) (d : Nat) (w : World) (hn : l.length = n) (hl : KidsAt w l K 0) (hWi : WithinM D l) (hnd : n ≤ d) (hd : d ≤ maxLen) :
  Calls Tryz.prog 157 #[.slice K n d] w fun e w' => e = .returned (.bool (callL l)) ∧ Below w.heap.size w w' := by
 have hd' := hd
 unfold maxLen at hd
 by_cases h0 : n = 0
 ·have e1 : ((n : Int) == 0) = true := by rw [h0]; rfl
  have HV := Lh (show callL l = false by rw [callL, hn, h0]; rfl); clear hE hl hWi hn; subst h0; go_enter Tryz.func157, Tryz.ntmps157; go_wp2_with fail; go_ret; exact ⟨by rw [HV.out]; rfl, Below.refl _ _⟩
 ·have e1 : ((n : Int) == 0) = false := beq0F h0; have e2 : (n == 0) = false := by simpa using h0
  obtain ⟨t, ht⟩ : ∃ t, l[0]? = some t := ⟨_, gEo⟩; obtain ⟨b, off, A', c', K', d', hKe, hC, hNt⟩ := hl.kid ht; rw [Nat.zero_add, Nat.zero_mul, Nat.add_zero] at hC; subst hKe; obtain ⟨n0, n1, n2, n3, n4, n5⟩ := hC; obtain ⟨hd1, hw1⟩ := hWi t (mog ht)
  have HX := Lh (by
   have := hE t A' c' K' d' w hd1 hw1 hNt; unfold ndV at this
   exact this)
  have htk : l.take 1 = [t] := by
   match l, ht with
   | a :: r, h => simp at h; simp [h]
  have HV0 := Lh (show callL l = (Sh.expr.ev Nd.right t && ((callG 0 (l.drop 1)).isEmpty || rowB (callG 0 (l.drop 1)) [(Sh.of 40).ev Nd.right])) by rw [callL, htk, hn, dTo]; simp); have i1 : (0 : Int) < (n : Int) := by omega
  have i2 : 0 < n := by omega
  have hbl : b < w.heap.size := blt n0; have HL := Lh hl; have HNn := Lh hn; have HW := Lh hWi; have HE := Lh hE; clear hE hl hWi hn ht hNt hd1 hw1 htk
  generalize Sh.expr.ev Nd.right t = x at *
  cases x
  ·go_enter Tryz.func157, Tryz.ntmps157; go_wp2_with (go_at_call 91; refine HX.out.mono ?_; rintro e w3 ⟨rfl, hb3⟩); go_ret; exact ⟨by rw [HV0.out]; rfl, hb3⟩
  ·have HV1 := Lh (show callL l = ((callG 0 (l.drop 1)).isEmpty || rowB (callG 0 (l.drop 1)) [(Sh.of 40).ev Nd.right]) from HV0.out); clear HV0; go_enter Tryz.func157, Tryz.ntmps157; go_wp2_with (go_at_call 91; refine HX.out.mono ?_; rintro e w3 ⟨rfl, hb3⟩)
   go_loopw [3] (fun iv wr => ∃ k : Nat, iv = .int .i64 k ∧ 1 ≤ k ∧ k ≤ n ∧ Hid (callG 0 (l.drop 1) = callG 0 (l.drop k)) ∧ Below w.heap.size w wr) (fun iv _ => n - (intOf iv).toNat)
   case atStart => exact ⟨1, rfl, by omega, by omega, Lh rfl, hb3⟩
   case round =>
    obtain ⟨k, rfl, hk1, hk, hR, hbr⟩ := hrel
    by_cases hkl : k < n
    ·have o1 : decide ((k : Int) < (n : Int)) = true := dTo; have o2 : decide (k < n) = true := dTr hkl; obtain ⟨t, ht⟩ : ∃ t, l[k]? = some t := ⟨_, List.getElem?_eq_getElem (by rw [HNn.out]; exact hkl)⟩; obtain ⟨b', off', A', c', K', d', hKe, hC, hNt⟩ := HL.out.kid ht; rw [Nat.zero_add] at hC; injection hKe with hKe
     injection hKe with q1 q2
     subst q1 q2; obtain ⟨m0, m1, m2, m3, m4, m5⟩ := hC.later hbr; obtain ⟨hd1, hw1⟩ := HW.out t (mog ht); have hI := HE.out t A' c' K' d' wr hd1 hw1 (hNt.later hbr); unfold ndV at hI; have HI := Lh hI; have HDT := Lh (fun h => drop_whileT (p := Sh.expr.ev Nd.right) ht h); have HDF := Lh (fun h => drop_whileF (p := Sh.expr.ev Nd.right) ht h); clear hI hC hNt ht hd1 hw1
     cases hp : Sh.expr.ev Nd.right t with
     | true =>
      rw [hp] at HI; have HZ := Lh (show callG 0 (l.drop 1) = callG 0 (l.drop (k + 1)) from hR.out.trans (congrArg (fun x => x.dropWhile ((Sh.of 52).ev Nd.right)) (HDT.out hp))); clear hp; go_wp2_with (go_at_call 91; refine HI.out.mono ?_; rintro e w4 ⟨rfl, hb4⟩)
      go_roundw
      case rel => exact ⟨k + 1, by go_num, by omega, by omega, HZ, hbr.trans (hb4.mono hbr.size)⟩
      case measure => simp [intOf]; omega
     | false =>
      rw [hp] at HI; have HZ := Lh (show callG 0 (l.drop 1) = callG 1 (l.drop k) from hR.out.trans (congrArg (fun x => x.dropWhile ((Sh.of 52).ev Nd.right)) (HDF.out hp))); clear hp; go_wp2_with (go_at_call 91; refine HI.out.mono ?_; rintro e w4 ⟨rfl, hb4⟩); have hb4 := hbr.trans (hb4.mono hbr.size); exact lv11
    ·have o1 : decide ((k : Int) < (n : Int)) = false := dFo; have o2 : decide (k < n) = false := dFa hkl; have HZ := Lh (show callG 0 (l.drop 1) = callG 1 (l.drop k) by rw [hR.out, List.drop_eq_nil_of_le (by have := HNn.out; omega)]; rfl); go_wp2_with fail; have hb4 := hbr; exact lv11
theorem last_nt : ∀ zs : List Int, NT zs → zs.getLast? ≠ some 0
 | [], _ => by simp
 | [z], h => by intro e; simp at e; exact h e
 | _ :: z :: r, h => by rw [List.getLast?_cons_cons]; exact last_nt (z :: r) h
theorem nt_last : ∀ zs : List Int, (zs.getLast? == some 0) = false → NT zs
 | [], _ => trivial
 | [z], h => by intro e; subst e; simp at h
 | a :: z :: r, h => by rw [List.getLast?_cons_cons] at h; exact nt_last (z :: r) h
theorem num_len (neg : Bool) (zs : List Int) (hW : W32 zs) (h : neg = false) : numL neg zs = (((cz (some (valI neg zs))).length == zs.length) && decide (zs.length ≤ 256)) := by
 subst h
 have hcz : cz (some (valI false zs)) = trimN zs := by
  have h1 : val (cz (some (valI false zs))) = val zs := by
   show val (wds (valI false zs).natAbs) = _
   rw [val_wds]; have := val_nn hW; simp only [valI]
   omega
  exact canon (cz_w32 _) (trimN_w32 hW) (cz_nt _) (trimN_nt zs) (h1.trans (val_trimN zs).symm)
 rw [hcz]
 simp only [numL, Bool.not_false, Bool.true_and]
 rw [Bool.and_comm]
 congr 1
 rw [Bool.eq_iff_iff]
 simp only [Bool.not_eq_true', beq_iff_eq]
 constructor
 ·intro hl; have hnt : NT zs := nt_last zs hl; rw [trimN_of_nt hW hnt]
 ·intro hl; have hz : trimN zs = zs := by
   have : trimN zs = zs.take (trimLen zs zs.length) := rfl; rw [trimN_length] at hl; rw [this, hl, List.take_of_length_le (Nat.le_refl _)]
  have hn := trimN_nt zs; rw [hz] at hn
  cases hg : zs.getLast? == some 0 with
  | false => rfl
  | true => exact absurd (beq_iff_eq.1 hg) (last_nt zs hn)
theorem rNum_ok (neg : Bool) (A : Option Addr) (c : Nat) (zs : List Int) (w : World) (hW : W32 zs) (hr : RdI w .u32 A zs) (hl : zs.length ≤ c) (hc : c ≤ maxLen) (hm : zs.length ≤ 1000000) :
  Calls Tryz.prog 150 #[.agg #[.bool neg, .slice A zs.length c]] w fun e w' => e = .returned (.bool (numL neg zs)) ∧ Below w.heap.size w w' := by
 have hc2 : c ≤ 9223372036854775807 := by unfold maxLen at hc; omega
 have HF := Lh (fun W (hb : Below w.heap.size w W) => refForm_can neg A c zs W hW (hr.later hb) hl hc2 hm)
 have HLen := Lh (num_len neg zs hW)
 have hb1 := (Below.refl w.heap.size w).alloc (Nat.le_refl _) (.cells #[.bool neg, .slice A zs.length c] 24)
 have hbox := heap_alloc_new w (.cells #[.bool neg, .slice A zs.length c] 24)
 have c0 : (w.alloc (.cells #[.bool neg, .slice A zs.length c] 24)).cell? ⟨w.heap.size, 0, none⟩ = some (.bool neg) := cell_of_row _ _ 0 _ _ _ hbox
 have c1 : (w.alloc (.cells #[.bool neg, .slice A zs.length c] 24)).cell? ⟨w.heap.size, 1, none⟩ = some (.slice A zs.length c) := cell_of_row _ _ 1 _ _ _ hbox
 generalize cb (some (valI neg zs)) = x at *
 generalize hcz : (cz (some (valI neg zs))) = q at *
 clear hW hr hbox
 cases neg with
 | true =>
  have HV := Lh (show numL true zs = false from rfl); exact lv140
 | false =>
  have HV0 := Lh (show numL false zs = ((q.length == zs.length) && decide (zs.length ≤ 256)) from HLen.out rfl); have HQ := Lh hcz; clear hcz HLen
  by_cases h1 : q.length = zs.length
  ·have e1 : ((q.length : Int) == (zs.length : Int)) = true := by simp [h1]
   have e2 : (q.length == zs.length) = true := by simp [h1]
   have HV := Lh (show numL false zs = decide (zs.length ≤ 256) by rw [HV0.out, e2, Bool.true_and]); clear h1
   by_cases h2 : zs.length ≤ 256
   ·have e3 : decide ((zs.length : Int) ≤ 256) = true := dTo; have e4 : decide (zs.length ≤ 256) = true := dTr h2; exact lv137
   ·have e3 : decide ((zs.length : Int) ≤ 256) = false := dFo; have e4 : decide (zs.length ≤ 256) = false := dFa h2; exact lv137
  ·have e1 : ((q.length : Int) == (zs.length : Int)) = false := by simp; omega
   have e2 : (q.length == zs.length) = false := by simpa using h1
   have HV := Lh (show numL false zs = false by rw [HV0.out, e2, Bool.false_and]); clear h1; exact lv140
theorem take_one {l : List Nd} {t : Nd} (h : l[0]? = some t) : l.take 1 = [t] := by
 match l, h with
 | a :: r, h => simp at h; simp [h]
theorem ex_at {T : Nd} {k : Int} (hk : T.kind = k) {tx : Tx} {fm : Fm} (hf : formOf k = some (tx, fm)) (h31 : 31 ≤ k) (h39 : k ≠ 39) (h40 : k ≠ 40) (h52 : k ≠ 52) : Sh.expr.ev Nd.right T = (tx.ev T.text && (if k = 32 then numB T else noNumB T) && fm.ev Nd.right T) := by
 have : Sh.expr.ev Nd.right T = T.right := by simp [Sh.ev, hk, h31, h39, h40, h52]
 rw [this, right_eq, hk, hf]
section
variable (D : Nat) (hE : RExprOk D) (T : Nd) (A : Option Addr) (c : Nat) (K : Option Addr) (d : Nat) (w : World)
include D hE T A c K d w
theorem rx31 (hk : T.kind = 31) (hD : T.depth ≤ D + 1) (hW : T.weight ≤ 1000000) (hN : NodeAt w T A c K d) :
  Calls Tryz.prog 91 #[ndV T A c K d] w fun e w' => e = .returned (.bool (Sh.expr.ev Nd.right T)) ∧ Below w.heap.size w w' := by
 have _ := hE
 have HBa := Lh (fun W (hb : Below w.heap.size w W) => by
  have := rBare_ok T A c K d W (hN.later hb); unfold ndV at this; rw [hk] at this
  exact this)
 have HNm := Lh (fun W (_ : Below w.heap.size w W) => rName_ok T.text W lq22)
 have HEV := Lh (show Sh.expr.ev Nd.right T = ((noNumB T) && (nameB T.text.data.toList) && ((T.kids.length == 0))) by
  rw [ex_at hk (tx := .name) (fm := .row []) rfl lq28 lq28 lq28 lq28]
  show (_ && _ && rowB T.kids []) = _
  rw [rowB_nil]
  simp [Tx.ev, Bool.and_assoc, Bool.and_comm, Bool.and_left_comm])
 cases hc0 : noNumB T with
 | true =>
  have G0 := Lh hc0; clear hc0
  cases hc1 : nameB T.text.data.toList with
  | true =>
   have G1 := Lh hc1; clear hc1
   by_cases h2' : T.kids.length = 0
   ·have g2 : (T.kids.length == 0) = true := by simp [h2']
    have el : ((T.kids.length : Int) == 0) = true := by rw [h2']; rfl
    have HV := Lh (show Sh.expr.ev Nd.right T = true by rw [HEV.out]; simp [G0.out, G1.out, g2]); clear h2'; obtain ⟨hm1, hm2, hrm, hw32, hk1, hk2, ⟨hk64a, hk64b⟩, ⟨ha64a, ha64b⟩, hts, hKs, HK⟩ := hN.hd; have hcc := bxn w T A c K d; rw [hk] at hcc; obtain ⟨hb1, c0, c1, c2, c3, c4, c5⟩ := hcc; unfold ndV; rw [hk]; clear hk; clear hKs hN; go_enter Tryz.func91, Tryz.ntmps91
    go_wp2_with (first | (go_at_call 34; refine (HBa.out _ hb1).mono ?_; rintro e w_1 ⟨he1, hq1⟩; rw [G0.out] at he1; subst he1; have hw1 := hb1.trans (hq1.mono hb1.size); obtain ⟨a1_0, a1_1, a1_2, a1_3, a1_4, a1_5⟩ := cl6 hq1 c0 c1 c2 c3 c4 c5; have hl1 := blt a1_0) | (go_at_call 92; refine (HNm.out _ hw1).mono ?_; rintro e w_2 ⟨he2, hq2⟩; rw [G1.out] at he2; subst he2; have hw2 := hw1.trans (hq2.mono hw1.size); obtain ⟨a2_0, a2_1, a2_2, a2_3, a2_4, a2_5⟩ := cl6 hq2 a1_0 a1_1 a1_2 a1_3 a1_4 a1_5; have hl2 := blt a2_0)); go_ret; exact ⟨by rw [HV.out]; rfl, hw2⟩
   ·have g2 : (T.kids.length == 0) = false := by simp [h2']
    have el : ((T.kids.length : Int) == 0) = false := bFo; exact lv72
  | false =>
   exact lv71
 | false =>
  exact lv97
theorem rx33 (hk : T.kind = 33) (hD : T.depth ≤ D + 1) (hW : T.weight ≤ 1000000) (hN : NodeAt w T A c K d) :
  Calls Tryz.prog 91 #[ndV T A c K d] w fun e w' => e = .returned (.bool (Sh.expr.ev Nd.right T)) ∧ Below w.heap.size w w' := by
 have _ := hE
 have HBa := Lh (fun W (hb : Below w.heap.size w W) => by
  have := rBare_ok T A c K d W (hN.later hb); unfold ndV at this; rw [hk] at this
  exact this)
 have HGd := Lh (fun W (_ : Below w.heap.size w W) => refGood_ok T.text W lq22)
 have HEV := Lh (show Sh.expr.ev Nd.right T = ((noNumB T) && (goodB T.text) && ((T.kids.length == 0))) by
  rw [ex_at hk (tx := .good) (fm := .row []) rfl lq28 lq28 lq28 lq28]
  show (_ && _ && rowB T.kids []) = _
  rw [rowB_nil]
  simp [Tx.ev, Bool.and_assoc, Bool.and_comm, Bool.and_left_comm])
 cases hc0 : noNumB T with
 | true =>
  have G0 := Lh hc0; clear hc0
  cases hc1 : goodB T.text with
  | true =>
   have G1 := Lh hc1; clear hc1
   by_cases h2' : T.kids.length = 0
   ·have g2 : (T.kids.length == 0) = true := by simp [h2']
    have el : ((T.kids.length : Int) == 0) = true := by rw [h2']; rfl
    have HV := Lh (show Sh.expr.ev Nd.right T = true by rw [HEV.out]; simp [G0.out, G1.out, g2]); exact lv81
   ·have g2 : (T.kids.length == 0) = false := by simp [h2']
    have el : ((T.kids.length : Int) == 0) = false := bFo; have HV := Lh (show Sh.expr.ev Nd.right T = false by rw [HEV.out]; simp [G0.out, G1.out, g2]); exact lv81
  | false =>
   have G1 := Lh hc1; clear hc1; have HV := Lh (show Sh.expr.ev Nd.right T = false by rw [HEV.out]; simp [G0.out, G1.out]); obtain ⟨hm1, hm2, hrm, hw32, hk1, hk2, ⟨hk64a, hk64b⟩, ⟨ha64a, ha64b⟩, hts, hKs, HK⟩ := hN.hd; have hcc := bxn w T A c K d; rw [hk] at hcc; obtain ⟨hb1, c0, c1, c2, c3, c4, c5⟩ := hcc; unfold ndV; rw [hk]; clear hk; clear hKs hN; go_enter Tryz.func91, Tryz.ntmps91
   go_wp2_with (first | (go_at_call 34; refine (HBa.out _ hb1).mono ?_; rintro e w_1 ⟨he1, hq1⟩; rw [G0.out] at he1; subst he1; have hw1 := hb1.trans (hq1.mono hb1.size); obtain ⟨a1_0, a1_1, a1_2, a1_3, a1_4, a1_5⟩ := cl6 hq1 c0 c1 c2 c3 c4 c5; have hl1 := blt a1_0) | (go_at_call 151; refine (HGd.out _ hw1).mono ?_; rintro e w_2 ⟨he2, hq2⟩; rw [G1.out] at he2; subst he2; have hw2 := hw1.trans (hq2.mono hw1.size); obtain ⟨a2_0, a2_1, a2_2, a2_3, a2_4, a2_5⟩ := cl6 hq2 a1_0 a1_1 a1_2 a1_3 a1_4 a1_5; have hl2 := blt a2_0)); go_ret; exact ⟨by rw [HV.out]; rfl, hw2⟩
 | false =>
  exact lv97
theorem rx53 (hk : T.kind = 53) (hD : T.depth ≤ D + 1) (hW : T.weight ≤ 1000000) (hN : NodeAt w T A c K d) :
  Calls Tryz.prog 91 #[ndV T A c K d] w fun e w' => e = .returned (.bool (Sh.expr.ev Nd.right T)) ∧ Below w.heap.size w w' := by
 have HBa := Lh (fun W (hb : Below w.heap.size w W) => by
  have := rBare_ok T A c K d W (hN.later hb); unfold ndV at this; rw [hk] at this
  exact this)
 have HNm := Lh (fun W (_ : Below w.heap.size w W) => rName_ok T.text W lq22)
 have HEx := Lh (fun W (hb : Below w.heap.size w W) => rExprs_ok D hE T.kids T.kids.length K d W rfl (hN.parts.2.2.2.2.2.2.2.2.2.later hb) (wKM hD hW) hN.parts.2.2.2.2.1 hN.parts.2.2.2.2.2.1)
 have HEV := Lh (show Sh.expr.ev Nd.right T = ((noNumB T) && (nameB T.text.data.toList) && ((T.kids.length == 1)) && (T.kids.all (Sh.expr.ev Nd.right))) by
  rw [ex_at hk (tx := .name) (fm := .row [.expr]) rfl lq28 lq28 lq28 lq28]
  show (_ && _ && rowB T.kids [Sh.expr.ev Nd.right]) = _
  rw [rowB_one]
  simp [Tx.ev, Bool.and_assoc, Bool.and_comm, Bool.and_left_comm])
 cases hc0 : noNumB T with
 | true =>
  have G0 := Lh hc0; clear hc0
  cases hc1 : nameB T.text.data.toList with
  | true =>
   have G1 := Lh hc1; clear hc1
   by_cases h2' : T.kids.length = 1
   ·have g2 : (T.kids.length == 1) = true := by simp [h2']
    have el : ((T.kids.length : Int) == 1) = true := by rw [h2']; rfl
    cases hc3 : T.kids.all (Sh.expr.ev Nd.right) with
    | true =>
     have G3 := Lh hc3; clear hc3; have HV := Lh (show Sh.expr.ev Nd.right T = true by rw [HEV.out]; simp [G0.out, G1.out, g2, G3.out]); exact lv55
    | false =>
     have G3 := Lh hc3; clear hc3; have HV := Lh (show Sh.expr.ev Nd.right T = false by rw [HEV.out]; simp [G0.out, G1.out, g2, G3.out]); exact lv55
   ·have g2 : (T.kids.length == 1) = false := by simp [h2']
    have el : ((T.kids.length : Int) == 1) = false := bFo; exact lv72
  | false =>
   exact lv71
 | false =>
  exact lv97
theorem rx48 (hk : T.kind = 48) (hD : T.depth ≤ D + 1) (hW : T.weight ≤ 1000000) (hN : NodeAt w T A c K d) :
  Calls Tryz.prog 91 #[ndV T A c K d] w fun e w' => e = .returned (.bool (Sh.expr.ev Nd.right T)) ∧ Below w.heap.size w w' := by
 have HBa := Lh (fun W (hb : Below w.heap.size w W) => by
  have := rBare_ok T A c K d W (hN.later hb); unfold ndV at this; rw [hk] at this
  exact this)
 have HCm := Lh (fun W (_ : Below w.heap.size w W) => rComparison_ok T.text W)
 have HEx := Lh (fun W (hb : Below w.heap.size w W) => rExprs_ok D hE T.kids T.kids.length K d W rfl (hN.parts.2.2.2.2.2.2.2.2.2.later hb) (wKM hD hW) hN.parts.2.2.2.2.1 hN.parts.2.2.2.2.2.1)
 have HEV := Lh (show Sh.expr.ev Nd.right T = ((noNumB T) && ((Tx.words compsL).ev T.text) && ((T.kids.length == 2)) && (T.kids.all (Sh.expr.ev Nd.right))) by
  rw [ex_at hk (tx := (.words compsL)) (fm := .row [.expr, .expr]) rfl lq28 lq28 lq28 lq28]
  show (_ && _ && rowB T.kids [Sh.expr.ev Nd.right, Sh.expr.ev Nd.right]) = _
  rw [rowB_two]
  simp [Tx.ev, Bool.and_assoc, Bool.and_comm, Bool.and_left_comm])
 cases hc0 : noNumB T with
 | true =>
  have G0 := Lh hc0; clear hc0
  cases hc1 : (Tx.words compsL).ev T.text with
  | true =>
   have G1 := Lh hc1; clear hc1
   by_cases h2' : T.kids.length = 2
   ·have g2 : (T.kids.length == 2) = true := by simp [h2']
    have el : ((T.kids.length : Int) == 2) = true := by rw [h2']; rfl
    cases hc3 : T.kids.all (Sh.expr.ev Nd.right) with
    | true =>
     have G3 := Lh hc3; clear hc3; have HV := Lh (show Sh.expr.ev Nd.right T = true by rw [HEV.out]; simp [G0.out, G1.out, g2, G3.out]); exact lv54
    | false =>
     have G3 := Lh hc3; clear hc3; have HV := Lh (show Sh.expr.ev Nd.right T = false by rw [HEV.out]; simp [G0.out, G1.out, g2, G3.out]); exact lv54
   ·have g2 : (T.kids.length == 2) = false := by simp [h2']
    have el : ((T.kids.length : Int) == 2) = false := bFo; have HV := Lh (show Sh.expr.ev Nd.right T = false by rw [HEV.out]; simp [G0.out, G1.out, g2]); clear h2'; exact lv84
  | false =>
   have G1 := Lh hc1; clear hc1; have HV := Lh (show Sh.expr.ev Nd.right T = false by rw [HEV.out]; simp [G0.out, G1.out]); exact lv84
 | false =>
  exact lv97
theorem rx49 (hk : T.kind = 49) (hD : T.depth ≤ D + 1) (hW : T.weight ≤ 1000000) (hN : NodeAt w T A c K d) :
  Calls Tryz.prog 91 #[ndV T A c K d] w fun e w' => e = .returned (.bool (Sh.expr.ev Nd.right T)) ∧ Below w.heap.size w w' := by
 have HBa := Lh (fun W (hb : Below w.heap.size w W) => by
  have := rBare_ok T A c K d W (hN.later hb); unfold ndV at this; rw [hk] at this
  exact this)
 have HOp := Lh (fun W (_ : Below w.heap.size w W) => rOperator_ok T.text W)
 have HEx := Lh (fun W (hb : Below w.heap.size w W) => rExprs_ok D hE T.kids T.kids.length K d W rfl (hN.parts.2.2.2.2.2.2.2.2.2.later hb) (wKM hD hW) hN.parts.2.2.2.2.1 hN.parts.2.2.2.2.2.1)
 have HEV := Lh (show Sh.expr.ev Nd.right T = ((noNumB T) && ((Tx.words signsL).ev T.text) && ((T.kids.length == 2)) && (T.kids.all (Sh.expr.ev Nd.right))) by
  rw [ex_at hk (tx := (.words signsL)) (fm := .row [.expr, .expr]) rfl lq28 lq28 lq28 lq28]
  show (_ && _ && rowB T.kids [Sh.expr.ev Nd.right, Sh.expr.ev Nd.right]) = _
  rw [rowB_two]
  simp [Tx.ev, Bool.and_assoc, Bool.and_comm, Bool.and_left_comm])
 cases hc0 : noNumB T with
 | true =>
  have G0 := Lh hc0; clear hc0
  cases hc1 : (Tx.words signsL).ev T.text with
  | true =>
   have G1 := Lh hc1; clear hc1
   by_cases h2' : T.kids.length = 2
   ·have g2 : (T.kids.length == 2) = true := by simp [h2']
    have el : ((T.kids.length : Int) == 2) = true := by rw [h2']; rfl
    cases hc3 : T.kids.all (Sh.expr.ev Nd.right) with
    | true =>
     have G3 := Lh hc3; clear hc3; have HV := Lh (show Sh.expr.ev Nd.right T = true by rw [HEV.out]; simp [G0.out, G1.out, g2, G3.out]); exact lv56
    | false =>
     have G3 := Lh hc3; clear hc3; have HV := Lh (show Sh.expr.ev Nd.right T = false by rw [HEV.out]; simp [G0.out, G1.out, g2, G3.out]); exact lv56
   ·have g2 : (T.kids.length == 2) = false := by simp [h2']
    have el : ((T.kids.length : Int) == 2) = false := bFo; have HV := Lh (show Sh.expr.ev Nd.right T = false by rw [HEV.out]; simp [G0.out, G1.out, g2]); clear h2'; exact lv85
  | false =>
   have G1 := Lh hc1; clear hc1; have HV := Lh (show Sh.expr.ev Nd.right T = false by rw [HEV.out]; simp [G0.out, G1.out]); exact lv85
 | false =>
  exact lv97
theorem rx35 (hk : T.kind = 35) (hD : T.depth ≤ D + 1) (hW : T.weight ≤ 1000000) (hN : NodeAt w T A c K d) :
  Calls Tryz.prog 91 #[ndV T A c K d] w fun e w' => e = .returned (.bool (Sh.expr.ev Nd.right T)) ∧ Below w.heap.size w w' := by
 exact lv9
end

section
variable (D : Nat) (hE : RExprOk D) (T : Nd) (A : Option Addr) (c : Nat) (K : Option Addr) (d : Nat) (w : World)
include D hE T A c K d w
theorem rx36 (hk : T.kind = 36) (hD : T.depth ≤ D + 1) (hW : T.weight ≤ 1000000) (hN : NodeAt w T A c K d) :
  Calls Tryz.prog 91 #[ndV T A c K d] w fun e w' => e = .returned (.bool (Sh.expr.ev Nd.right T)) ∧ Below w.heap.size w w' := by
 exact lv9
theorem rx37 (hk : T.kind = 37) (hD : T.depth ≤ D + 1) (hW : T.weight ≤ 1000000) (hN : NodeAt w T A c K d) :
  Calls Tryz.prog 91 #[ndV T A c K d] w fun e w' => e = .returned (.bool (Sh.expr.ev Nd.right T)) ∧ Below w.heap.size w w' := by
 have HBa := Lh (fun W (hb : Below w.heap.size w W) => by
  have := rBare_ok T A c K d W (hN.later hb); unfold ndV at this; rw [hk] at this
  exact this)
 have HTE := Lh (text_empty T.text)
 have HEx := Lh (fun W (hb : Below w.heap.size w W) => rExprs_ok D hE T.kids T.kids.length K d W rfl (hN.parts.2.2.2.2.2.2.2.2.2.later hb) (wKM hD hW) hN.parts.2.2.2.2.1 hN.parts.2.2.2.2.2.1)
 have HEV := Lh (show Sh.expr.ev Nd.right T = ((noNumB T) && ((T.text.size == 0)) && (decide (1 ≤ T.kids.length)) && (T.kids.all (Sh.expr.ev Nd.right))) by
  rw [ex_at hk (tx := .non) (fm := .some 1 .expr) rfl lq28 lq28 lq28 lq28]
  simp [Tx.ev, Fm.ev, Bool.and_assoc, Bool.and_comm, Bool.and_left_comm])
 cases hc0 : noNumB T with
 | true =>
  have G0 := Lh hc0; clear hc0
  by_cases h1' : T.text.size = 0
  ·have g1 : (T.text.size == 0) = true := by simp [h1']
   have et : T.text.toList.isEmpty = true := by rw [HTE.out, g1]
   by_cases h2' : 1 ≤ T.kids.length
   ·have g2 : decide (1 ≤ T.kids.length) = true := by simp [h2']
    have el : decide ((0 : Int) < (T.kids.length : Int)) = true := dTo; have el' : decide (0 < T.kids.length) = true := dTo
    cases hc3 : T.kids.all (Sh.expr.ev Nd.right) with
    | true =>
     exact lv69
    | false =>
     exact lv68
   ·exact lv77
  ·exact lv91
 | false =>
  exact lv97
theorem rx45 (hk : T.kind = 45) (hD : T.depth ≤ D + 1) (hW : T.weight ≤ 1000000) (hN : NodeAt w T A c K d) :
  Calls Tryz.prog 91 #[ndV T A c K d] w fun e w' => e = .returned (.bool (Sh.expr.ev Nd.right T)) ∧ Below w.heap.size w w' := by
 exact lv5
theorem rx46 (hk : T.kind = 46) (hD : T.depth ≤ D + 1) (hW : T.weight ≤ 1000000) (hN : NodeAt w T A c K d) :
  Calls Tryz.prog 91 #[ndV T A c K d] w fun e w' => e = .returned (.bool (Sh.expr.ev Nd.right T)) ∧ Below w.heap.size w w' := by
 exact lv5
theorem rx54 (hk : T.kind = 54) (hD : T.depth ≤ D + 1) (hW : T.weight ≤ 1000000) (hN : NodeAt w T A c K d) :
  Calls Tryz.prog 91 #[ndV T A c K d] w fun e w' => e = .returned (.bool (Sh.expr.ev Nd.right T)) ∧ Below w.heap.size w w' := by
 exact lv5
theorem rx47 (hk : T.kind = 47) (hD : T.depth ≤ D + 1) (hW : T.weight ≤ 1000000) (hN : NodeAt w T A c K d) :
  Calls Tryz.prog 91 #[ndV T A c K d] w fun e w' => e = .returned (.bool (Sh.expr.ev Nd.right T)) ∧ Below w.heap.size w w' := by
 exact lv6
end

end
end Go.Proofs.YtjefhdlncikhmaaGreatDoor
