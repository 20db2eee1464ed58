/- Joined by a program: Shp7, Shp8a, Shp8b, Shp8c, Shp8d, Shp9. -/
import Derived.Test.YtjefhdlncikhmaaGreatDoorPT07
namespace Go.Proofs.YtjefhdlncikhmaaGreatDoor
set_option linter.unusedVariables false
set_option linter.unusedSimpArgs false
set_option maxRecDepth 1000000
set_option maxHeartbeats 16000000
section
open Go.RowKit
open List (length_append length_cons length_nil length_singleton)
section
variable {D : Nat} (hRi : RightOk D) {w : World} (hT : Lib.Utf8Tabs 0 1 w)
include hRi hT
theorem shExpr : ShapeOk D w (.func (.func 67) #[] #[]) (Sh.expr.ev Nd.right) := ⟨_, _, rfl, run_call _ _ Tryz.func67 lq27 lq27, fun W hW T A c K d hD hWt hN => tExpr_ok D hRi T A c K d W hD hWt hN (Utf8Tabs_below hT hW)⟩
theorem shTargets : ShapeOk D w (.func (.func 72) #[] #[]) (Sh.targets.ev Nd.right) := ⟨_, _, rfl, run_call _ _ Tryz.func72 lq27 lq27, fun W hW T A c K d hD hWt hN => tTargets_ok D hRi T A c K d W hD hWt hN (Utf8Tabs_below hT hW)⟩
theorem shBlock : ShapeOk D w (.func (.func 71) #[] #[]) (Sh.block.ev Nd.right) := ⟨_, _, rfl, run_call _ _ Tryz.func71 lq27 lq27, fun W hW T A c K d hD hWt hN => tBlock_ok D hRi T A c K d W hD hWt hN (Utf8Tabs_below hT hW)⟩
theorem of_ok (k : Int) : Calls Tryz.prog 64 #[.int .i64 k] w fun e w' => (∃ v, e = .returned v ∧ ShapeOk D w' v ((Sh.of k).ev Nd.right)) ∧ Below w.heap.size w w' := by
 have hb1 := (Below.refl w.heap.size w).alloc (Nat.le_refl _) (.cells #[.int .i64 k] 3)
 have HS : ShapeOk D (w.alloc (.cells #[.int .i64 k] 3)) (.func (.func 128) #[] #[.pointer (some ⟨w.heap.size, 0, none⟩)]) ((Sh.of k).ev Nd.right) :=
  ⟨_, _, rfl, run_call _ _ Tryz.func128 lq27 lq27, fun W hW T A c K d hD hWt hN => tOf1_ok k w.heap.size D hRi T A c K d W hD hWt hN (Utf8Tabs_below (Utf8Tabs_below hT hb1) hW) (cLt hW (box_one w _ _))⟩
 clear hT hRi
 go_enter Tryz.func64, Tryz.ntmps64
 go_wp2
 go_ret
 exact ⟨⟨_, rfl, HS⟩, hb1⟩
end
theorem shNone (D : Nat) (w : World) : ShapeOk D w (.func (.func 70) #[] #[]) (Sh.none.ev Nd.right) := ⟨_, _, rfl, run_call _ _ Tryz.func70 lq27 lq27, fun W hW T A c K d hD hWt hN => tNone_ok T A c K d W hN⟩
theorem ShapeOk.less {D D' : Nat} {w : World} {v : Value} {p : Nd → Bool} (h : ShapeOk D w v p) (hd : D' ≤ D) : ShapeOk D' w v p := by
 obtain ⟨f, caps, hv, hrn, hf⟩ := h
 exact ⟨f, caps, hv, hrn, fun W hW T A c K d hD => hf W hW T A c K d lq29⟩
theorem ShapeOk.eq {D : Nat} {w : World} {v : Value} {p q : Nd → Bool} (h : ShapeOk D w v p) (hpq : ∀ T, p T = q T) : ShapeOk D w v q := by
 have : p = q := funext hpq
 exact this ▸ h
theorem shapes_new (D : Nat) (w : World) (t : TypeId) (vs : List Value) (L : List (Nd → Bool)) (hlen : vs.length = L.length) (h : ∀ (i : Nat) (v : Value) (p : Nd → Bool), vs[i]? = some v → L[i]? = some p → ShapeOk D w v p) (n : Nat) (hn : n = w.heap.size) : ShapesAt D (w.alloc (.cells vs.toArray t)) (some ⟨n, 0, none⟩) L := fun i p hi => by
 have hil : i < vs.length := by rw [hlen]; exact (List.getElem?_eq_some_iff.1 hi).1
 refine ⟨n, 0, vs[i], rfl, ?_, (h i _ p (List.getElem?_eq_getElem hil) hi).later ((Below.refl _ _).alloc (Nat.le_refl _) _)⟩
 rw [hn, Nat.zero_add, cell_of_row _ _ i _ t (0, 0) (heap_alloc_new w _)]
 simp [hil]
theorem shapes_one {D : Nat} {w : World} {v : Value} {p : Nd → Bool} (h : ShapeOk D w v p) (t : TypeId) (n : Nat) (hn : n = w.heap.size) : ShapesAt D (w.alloc (.cells #[v] t)) (some ⟨n, 0, none⟩) [p] :=
 shapes_new D w t [v] [p] rfl (fun (i : Nat) (v' : Value) (p' : Nd → Bool) h1 h2 => by
  cases i with
  | zero => simp at h1 h2; subst h1 h2; exact h
  | succ i => simp at h1) n hn
theorem shapes_two {D : Nat} {w : World} {v v2 : Value} {p p2 : Nd → Bool} (h : ShapeOk D w v p) (h2 : ShapeOk D w v2 p2) (t : TypeId) (n : Nat) (hn : n = w.heap.size) : ShapesAt D (w.alloc (.cells #[v, v2] t)) (some ⟨n, 0, none⟩) [p, p2] :=
 shapes_new D w t [v, v2] [p, p2] rfl (fun (i : Nat) (v' : Value) (p' : Nd → Bool) h1 h3 => by
  rcases i with _ | _ | i
  ·simp at h1 h3; subst h1 h3; exact h
  ·simp at h1 h3; subst h1 h3; exact h2
  ·simp at h1) n hn
theorem shapes_three {D : Nat} {w : World} {v v2 v3 : Value} {p p2 p3 : Nd → Bool} (h : ShapeOk D w v p) (h2 : ShapeOk D w v2 p2) (h3 : ShapeOk D w v3 p3) (t : TypeId) (n : Nat) (hn : n = w.heap.size) : ShapesAt D (w.alloc (.cells #[v, v2, v3] t)) (some ⟨n, 0, none⟩) [p, p2, p3] :=
 shapes_new D w t [v, v2, v3] [p, p2, p3] rfl (fun (i : Nat) (v' : Value) (p' : Nd → Bool) h1 h4 => by
  rcases i with _ | _ | _ | i
  ·simp at h1 h4; subst h1 h4; exact h
  ·simp at h1 h4; subst h1 h4; exact h2
  ·simp at h1 h4; subst h1 h4; exact h3
  ·simp at h1) n hn
theorem any2 (T : Nd) (a b : Sh) : anyB T [a.ev Nd.right, b.ev Nd.right] = (Sh.or2 a b).ev Nd.right T := by
 simp [anyB, Sh.ev]
theorem or2_ok (D : Nat) (w : World) (A : Option Addr) (m : Nat) (a b : Sh) (hm : 2 = m) (h : ShapesAt D w A [a.ev Nd.right, b.ev Nd.right]) :
  Calls Tryz.prog 69 #[.slice A m m] w fun e w' => (∃ v, e = .returned v ∧ ShapeOk D w' v ((Sh.or2 a b).ev Nd.right)) ∧ Below w.heap.size w w' := by
 subst hm
 refine (or_ok D _ 2 2 A w rfl h (Nat.le_refl _) lq24).mono ?_
 rintro e w' ⟨⟨v, rfl, hv⟩, hb⟩
 exact ⟨⟨v, rfl, hv.eq fun T => any2 T a b⟩, hb⟩
theorem KidsAt.cut {w : World} {b off : Nat} {l : List Nd} (h : KidsAt w l (some ⟨b, off, none⟩) 0) (n d : Nat) (hl : l.length ≤ d) : KidsAt w (l.drop n) (if d = n then some ⟨b, off, none⟩ else some ⟨b, off + n * 6, none⟩) 0 := by
 by_cases hd : d = n
 ·rw [List.drop_eq_nil_of_le lq29, KidsAt]; trivial
 ·rw [if_neg hd]; exact h.drop n
theorem below_drew {B : Nat} {a w : World} (h : Below B a w) : Below B a w.drew := h.trans ⟨rfl, rfl, rfl, Nat.le_refl _, fun _ _ => rfl⟩
theorem below_draws (w : World) (n : Nat) : Below w.heap.size w (w.drewN n) := ⟨rfl, rfl, rfl, Nat.le_refl _, fun _ _ => rfl⟩
theorem below_then {w1 W0 W : World} (h : Below W0.heap.size W0 W) (h0 : Below w1.heap.size w1 W0) : Below w1.heap.size w1 W := h0.trans (h.mono h0.size)
theorem tParam_ok (D : Nat) (hRi : RightOk D) (T : Nd) (A : Option Addr) (c : Nat) (K : Option Addr) (d : Nat) (w : World) (hD : T.depth ≤ D + 1) (hW : T.weight ≤ 1048576) (hN : NodeAt w T A c K d) (hT : Lib.Utf8Tabs 0 1 w) :
  Calls Tryz.prog 75 #[ndV T A c K d] w fun e w' => e = .returned (.bool (Fm.prm.ev Nd.right T)) ∧ Below w.heap.size w w' := by
 have hWi := within_kids hD hW
 have hkp := hN.parts
 have hbx := (Below.refl w.heap.size w).alloc (Nat.le_refl _) (bx T.kind T A c K d)
 have HRow := Lh (fun W (hb : Below (w.alloc (bx T.kind T A c K d)).heap.size (w.alloc (bx T.kind T A c K d)) W) (L : List (Nd → Bool)) (m : Nat) A hm hL hmc => row_ok D T.kids T.kids.length K d L m A m W rfl (hkp.2.2.2.2.2.2.2.2.2.later (hbx.trans (hb.mono hbx.size))) hWi hm hL hkp.2.2.2.2.1 hkp.2.2.2.2.2.1 (Nat.le_refl _) hmc)
 have HT := Lh (Utf8Tabs_below hT hbx)
 have HRi := Lh hRi
 clear hkp hWi hbx hT hRi
 by_cases hk0 : T.kids.length = 0
 ·have e1 : ((T.kids.length : Int) == 0) = true := by rw [hk0]; rfl
  have e2 : (T.kids.length == 0) = true := by rw [hk0]; rfl
  clear hk0; obtain ⟨hm1, hm2, hrm, hw32, hk1, hk2, ⟨hk64a, hk64b⟩, ⟨ha64a, ha64b⟩, hts, hKs, HK⟩ := hN.hd; obtain ⟨hb1, c0, c1, c2, c3, c4, c5⟩ := bxn w T A c K d; unfold ndV; clear hKs hN; go_enter Tryz.func75, Tryz.ntmps75; go_wp2_with fail
  generalize w.alloc (bx T.kind T A c K d) = w1 at *
  go_quiet (fail)
  go_wp2; go_ret; exact ⟨by show Ending.returned (.bool _) = _; simp [Fm.ev, e2], hb1.trans ((below_draws _ _).mono hb1.size)⟩
 ·have e1 : ((T.kids.length : Int) == 0) = false := beq0F hk0; have e2 : (T.kids.length == 0) = false := by simpa using hk0
  clear hk0; obtain ⟨hm1, hm2, hrm, hw32, hk1, hk2, ⟨hk64a, hk64b⟩, ⟨ha64a, ha64b⟩, hts, hKs, HK⟩ := hN.hd; obtain ⟨hb1, c0, c1, c2, c3, c4, c5⟩ := bxn w T A c K d; unfold ndV; clear hKs hN; go_enter Tryz.func75, Tryz.ntmps75; go_wp2_with fail
  generalize w.alloc (bx T.kind T A c K d) = w1 at *
  have HPK := fun (W : World) (h : Below w1.heap.size w1 W) => show _ ∧ _ from ⟨cLt h c5, Nat.lt_of_lt_of_le (blt c5) h.size⟩
  go_region_held3 (fun W => W.cell? ⟨w.heap.size, 5, none⟩ = some (.slice K T.kids.length d) ∧ w.heap.size < W.heap.size) (first | (refine HPK _ ?_; (repeat' (first | with_reducible exact H2 | with_reducible exact H1 | with_reducible exact Below.refl _ _ | (with_reducible refine Below.alloc ?_ ?_ _) | (with_reducible refine below_drew ?_))); all_goals (first | exact H2.size | exact H1.size | omega | (simp; done) | (simp; omega) | (have := H2.size; simp; omega) | (have := H1.size; simp; omega)))) (first
   | (go_at_call 69; refine (or2_ok D _ _ _ .none .expr rfl (by first | exact shapes_two (shNone D _) (shExpr HRi.out (Utf8Tabs_below HT.out lq4)) _ _ lq30 | exact ShapesAt.later (shapes_two (shNone D _) (shExpr HRi.out (Utf8Tabs_below HT.out lq4)) _ _ lq30) (below_drew (Below.refl _ _)) | exact ShapesAt.later (shapes_two (shNone D _) (shExpr HRi.out (Utf8Tabs_below HT.out lq4)) _ _ lq30) (below_drew (below_drew (Below.refl _ _))))).mono ?_; rintro e w3 ⟨⟨v, rfl, hv⟩, hb3⟩; have hv' := hv; obtain ⟨f1, cp1, hv1, _⟩ := hv'; subst hv1; have H1 := below_then (w1 := w1) hb3 lq4)
   | (go_at_call 127; refine (HRow.out _ lq4 [(Sh.or2 .none .expr).ev Nd.right] 1 _ rfl (by first | exact shapes_one (hv.later (by first | exact Below.refl _ _ | exact below_drew (Below.refl _ _))) _ _ lq30 | exact ShapesAt.later (shapes_one (hv.later (by first | exact Below.refl _ _ | exact below_drew (Below.refl _ _))) _ _ lq30) (below_drew (Below.refl _ _)) | exact ShapesAt.later (shapes_one (hv.later (by first | exact Below.refl _ _ | exact below_drew (Below.refl _ _))) _ _ lq30) (below_drew (below_drew (Below.refl _ _)))) lq24).mono ?_; rintro e w4 ⟨rfl, hb4⟩; have H2 := below_then (w1 := w1) hb4 lq4))
  all_goals
   go_wp2; go_ret; exact ⟨by show Ending.returned (.bool _) = _; simp [Fm.ev, e2], hb1.trans (H2.mono hb1.size)⟩
theorem tComp1_ok (v0 : Value) (p0 : Nd → Bool) (X : Nat) (D : Nat) (hRi : RightOk D) (T : Nd) (A : Option Addr) (c : Nat) (K : Option Addr) (d : Nat) (w : World) (hD : T.depth ≤ D + 1) (hW : T.weight ≤ 1048576) (hN : NodeAt w T A c K d) (hT : Lib.Utf8Tabs 0 1 w) (hS0 : ShapeOk D w v0 p0) (hX : w.cell? ⟨X, 0, none⟩ = some v0) :
  Calls Tryz.prog 180 #[ndV T A c K d, .pointer (some ⟨X, 0, none⟩)] w fun e w' => e = .returned (.bool (decide (3 ≤ T.kids.length) && rowB (T.kids.take 3) [p0, Sh.targets.ev Nd.right, Sh.expr.ev Nd.right] && (T.kids.drop 3).all (Sh.expr.ev Nd.right))) ∧ Below w.heap.size w w' := by
 have hWi := within_kids hD hW
 have hkp := hN.parts
 have hbx := (Below.refl w.heap.size w).alloc (Nat.le_refl _) (bx T.kind T A c K d)
 have HT := Lh (Utf8Tabs_below hT hbx)
 have HRi := Lh hRi
 have HS0 := Lh (hS0.later hbx)
 have hX2 := cLt hbx hX
 have hXl := World.block_lt_of_cell? w _ hX
 obtain ⟨f0, cp0, hv0, _⟩ := hS0
 subst hv0
 by_cases h3 : 3 ≤ T.kids.length
 ·have e1 : decide (3 ≤ (T.kids.length : Int)) = true := dTo; have e2 : decide (3 ≤ T.kids.length) = true := dTr h3; have s0 : T.kids.length ≤ d := hkp.2.2.2.2.1; have s1 : (3 : Int) ≤ (d : Int) := by omega
  have s2 : (3 : Int) ≤ (T.kids.length : Int) := by omega
  have s3 : (T.kids.length : Int) ≤ (d : Int) := by omega
  obtain ⟨t0, ht0⟩ : ∃ t0, T.kids[0]? = some t0 := ⟨_, gEo⟩; obtain ⟨b, off, _, _, _, _, hKe, _, _⟩ := hN.kid ht0; subst hKe; clear ht0; have hwt : Within D (T.kids.take 3) := fun t ht => hWi t (List.mem_of_mem_take ht)
  have hwd : Within D (T.kids.drop 3) := fun t ht => hWi t (List.mem_of_mem_drop ht)
  have HRow := Lh (fun W (hb : Below (w.alloc (bx T.kind T A c (some ⟨b, off, none⟩) d)).heap.size (w.alloc (bx T.kind T A c (some ⟨b, off, none⟩) d)) W) (L : List (Nd → Bool)) (m : Nat) A hm hL hmc => row_ok D (T.kids.take 3) 3 (some ⟨b, off, none⟩) d L m A m W lq21 ((hkp.2.2.2.2.2.2.2.2.2.later (hbx.trans (hb.mono hbx.size))).take 3) hwt hm hL (by have := hkp.2.2.2.2.1; omega) hkp.2.2.2.2.2.1 (Nat.le_refl _) hmc)
  have HEach := Lh (fun W (hb : Below (w.alloc (bx T.kind T A c (some ⟨b, off, none⟩) d)).heap.size (w.alloc (bx T.kind T A c (some ⟨b, off, none⟩) d)) W) v p hS => each_ok D v p (T.kids.drop 3) (T.kids.length - 3) (if d = 3 then some ⟨b, off, none⟩ else some ⟨b, off + 18, none⟩) (d - 3) W hS (by rw [List.length_drop]) ((hkp.2.2.2.2.2.2.2.2.2.later (hbx.trans (hb.mono hbx.size))).cut 3 d hkp.2.2.2.2.1) hwd (by have := hkp.2.2.2.2.1; omega) (by have := hkp.2.2.2.2.2.1; omega)); clear hkp hWi hbx hT hRi hwt hwd hX
  generalize hr1 : rowB (T.kids.take 3) [p0, Sh.targets.ev Nd.right, Sh.expr.ev Nd.right] = r1
  generalize hr2 : (T.kids.drop 3).all (Sh.expr.ev Nd.right) = r2
  have HR1 := Lh hr1; have HR2 := Lh hr2; clear hr1 hr2
  cases r1
  ·obtain ⟨hm1, hm2, hrm, hw32, hk1, hk2, ⟨hk64a, hk64b⟩, ⟨ha64a, ha64b⟩, hts, hKs, HK⟩ := hN.hd; obtain ⟨hb1, c0, c1, c2, c3, c4, c5⟩ := bxn w T A c (some ⟨b, off, none⟩) d; unfold ndV; clear hKs hN; go_enter Tryz.func180, Tryz.ntmps180; go_wp2_with fail
   generalize w.alloc (bx T.kind T A c (some ⟨b, off, none⟩) d) = w1 at *
   have hX1 : X < w1.heap.size := blt hX2; have hwl : w.heap.size < w1.heap.size := blt c5
   first | go_region_with ((go_at_call 127; refine (HRow.out _ lq7 [p0, Sh.targets.ev Nd.right, Sh.expr.ev Nd.right] 3 _ rfl lq1 lq24).mono ?_; rintro e w3 ⟨he3, hb3⟩; rw [HR1.out] at he3; subst he3; have H1 := below_then (w1 := w1) hb3 lq7)) | fail
   all_goals
    go_wp2; go_ret; exact ⟨by show Ending.returned (.bool _) = _; simp [e2], hb1.trans (H1.mono hb1.size)⟩
  ·cases r2
   ·exact lv12
   ·exact lv12
 ·have e1 : decide (3 ≤ (T.kids.length : Int)) = false := dFo; have e2 : decide (3 ≤ T.kids.length) = false := dFa h3; clear h3 hkp hWi hbx hT hRi hX; obtain ⟨hm1, hm2, hrm, hw32, hk1, hk2, ⟨hk64a, hk64b⟩, ⟨ha64a, ha64b⟩, hts, hKs, HK⟩ := hN.hd; obtain ⟨hb1, c0, c1, c2, c3, c4, c5⟩ := bxn w T A c K d; unfold ndV; clear hKs hN; go_enter Tryz.func180, Tryz.ntmps180; go_wp2_with fail
  generalize w.alloc (bx T.kind T A c K d) = w1 at *
  go_quiet (fail)
  go_wp2; go_ret; exact ⟨by show Ending.returned (.bool _) = _; simp [e2], hb1.trans ((below_draws _ _).mono hb1.size)⟩
theorem exA_ok (D : Nat) (hRi : RightOk D) (T : Nd) (A : Option Addr) (c : Nat) (K : Option Addr) (d : Nat) (w : World) (hD : T.depth ≤ D + 1) (hW : T.weight ≤ 1048576) (hN : NodeAt w T A c K d) (hT : Lib.Utf8Tabs 0 1 w) (hr1 : rowB T.kids [(Sh.or2 .none .expr).ev Nd.right, Sh.block.ev Nd.right] = false) :
  Calls Tryz.prog 78 #[ndV T A c K d] w fun e w' => e = .returned (.bool false) ∧ Below w.heap.size w w' := by
 have hWi := within_kids hD hW
 have hkp := hN.parts
 have hbx := (Below.refl w.heap.size w).alloc (Nat.le_refl _) (bx T.kind T A c K d)
 have HRow := Lh (fun W (hb : Below (w.alloc (bx T.kind T A c K d)).heap.size (w.alloc (bx T.kind T A c K d)) W) (L : List (Nd → Bool)) (m : Nat) A hm hL hmc => row_ok D T.kids T.kids.length K d L m A m W rfl (hkp.2.2.2.2.2.2.2.2.2.later (hbx.trans (hb.mono hbx.size))) hWi hm hL hkp.2.2.2.2.1 hkp.2.2.2.2.2.1 (Nat.le_refl _) hmc)
 have HT := Lh (Utf8Tabs_below hT hbx)
 have HRi := Lh hRi
 have htx : T.text.size ≤ 1048576 := by have := T.weight_eq; omega
 have HNm := Lh (fun W => isName_ok T.text W lq29)
 have HTE := Lh (text_empty T.text)
 clear hkp hWi hT hRi htx
 have HR1 := Lh hr1
 clear hr1 hbx
 obtain ⟨hm1, hm2, hrm, hw32, hk1, hk2, ⟨hk64a, hk64b⟩, ⟨ha64a, ha64b⟩, hts, hKs, HK⟩ := hN.hd
 obtain ⟨hb1, c0, c1, c2, c3, c4, c5⟩ := bxn w T A c K d
 unfold ndV
 clear hKs hN
 go_enter Tryz.func78, Tryz.ntmps78
 go_wp2_with fail
 generalize w.alloc (bx T.kind T A c K d) = w1 at *
 have hwl : w.heap.size < w1.heap.size := blt c5
 have hun : undef = Value.tuple #[] := rfl
 first | go_region_with (first | (go_at_call 69; refine (or2_ok D _ _ _ .none .expr rfl lq3).mono ?_; rintro e w3 ⟨⟨v, rfl, hv⟩, hb3⟩; have hv' := hv; obtain ⟨f1, cp1, hv1, _⟩ := hv'; subst hv1; have H1 := below_then (w1 := w1) hb3 lq7; obtain ⟨a5, a2⟩ := cl2 H1 c5 c2; have hl3 : w.heap.size < w3.heap.size := Nat.lt_of_lt_of_le hwl H1.size) | (go_at_call 127; refine (HRow.out _ lq4 [(Sh.or2 .none .expr).ev Nd.right, Sh.block.ev Nd.right] 2 _ rfl lq2 lq24).mono ?_; rintro e w4 ⟨he4, hb4⟩; rw [HR1.out] at he4; subst he4; have H2 := below_then (w1 := w1) hb4 lq4; obtain ⟨b5, b2⟩ := cl2 H2 c5 c2; have hl4 : w.heap.size < w4.heap.size := Nat.lt_of_lt_of_le hwl H2.size)) | fail
 all_goals
  go_wp2; go_ret; exact ⟨rfl, hb1.trans (H2.mono hb1.size)⟩
theorem exB_ok (D : Nat) (hRi : RightOk D) (T : Nd) (A : Option Addr) (c : Nat) (K : Option Addr) (d : Nat) (w : World) (hD : T.depth ≤ D + 1) (hW : T.weight ≤ 1048576) (hN : NodeAt w T A c K d) (hT : Lib.Utf8Tabs 0 1 w) (hr1 : rowB T.kids [(Sh.or2 .none .expr).ev Nd.right, Sh.block.ev Nd.right] = true) (q : Nd) (hq : T.kids[0]? = some q) (hte : (T.text.size == 0) = true) :
  Calls Tryz.prog 78 #[ndV T A c K d] w fun e w' => e = .returned (.bool true) ∧ Below w.heap.size w w' := by
 have hWi := within_kids hD hW
 have hkp := hN.parts
 have hbx := (Below.refl w.heap.size w).alloc (Nat.le_refl _) (bx T.kind T A c K d)
 have HRow := Lh (fun W (hb : Below (w.alloc (bx T.kind T A c K d)).heap.size (w.alloc (bx T.kind T A c K d)) W) (L : List (Nd → Bool)) (m : Nat) A hm hL hmc => row_ok D T.kids T.kids.length K d L m A m W rfl (hkp.2.2.2.2.2.2.2.2.2.later (hbx.trans (hb.mono hbx.size))) hWi hm hL hkp.2.2.2.2.1 hkp.2.2.2.2.2.1 (Nat.le_refl _) hmc)
 have HT := Lh (Utf8Tabs_below hT hbx)
 have HRi := Lh hRi
 have htx : T.text.size ≤ 1048576 := by have := T.weight_eq; omega
 have HNm := Lh (fun W => isName_ok T.text W lq29)
 have HTE := Lh (text_empty T.text)
 clear hkp hWi hT hRi htx
 have HR1 := Lh hr1
 have hl2 : T.kids.length = 2 := by
  rcases Nat.decEq T.kids.length 2 with h | h
  ·rw [rowB_len h] at hr1; cases hr1
  ·exact h
 obtain ⟨b, off, A', c', K', d', hKe, hC, _⟩ := hN.kid hq
 rw [Nat.zero_mul, Nat.add_zero] at hC
 subst hKe
 have kk1 := cLt hbx hC.1
 clear hr1 hq hbx hC
 have i0 : (0 : Int) < (T.kids.length : Int) := by omega
 have i1 : 0 < T.kids.length := by omega
 clear hl2
 have e1 : T.text.toList.isEmpty = true := by rw [HTE.out, hte]
 obtain ⟨hm1, hm2, hrm, hw32, hk1, hk2, ⟨hk64a, hk64b⟩, ⟨ha64a, ha64b⟩, hts, hKs, HK⟩ := hN.hd
 obtain ⟨hb1, c0, c1, c2, c3, c4, c5⟩ := bxn w T A c (some ⟨b, off, none⟩) d
 unfold ndV
 clear hKs hN
 go_enter Tryz.func78, Tryz.ntmps78
 go_wp2_with fail
 generalize w.alloc (bx T.kind T A c (some ⟨b, off, none⟩) d) = w1 at *
 have hwl : w.heap.size < w1.heap.size := blt c5
 have hun : undef = Value.tuple #[] := rfl
 have kk0 := kk1
 have hbl : b < w1.heap.size := blt kk0
 first | go_region_with (first | (go_at_call 69; refine (or2_ok D _ _ _ .none .expr rfl lq3).mono ?_; rintro e w3 ⟨⟨v, rfl, hv⟩, hb3⟩; have hv' := hv; obtain ⟨f1, cp1, hv1, _⟩ := hv'; subst hv1; have H1 := below_then (w1 := w1) hb3 lq7; obtain ⟨a5, a2⟩ := cl2 H1 c5 c2; have hl3 : w.heap.size < w3.heap.size := Nat.lt_of_lt_of_le hwl H1.size; have ak := cLt H1 kk0; have hlb3 : b < w3.heap.size := Nat.lt_of_lt_of_le hbl H1.size) | (go_at_call 127; refine (HRow.out _ lq4 [(Sh.or2 .none .expr).ev Nd.right, Sh.block.ev Nd.right] 2 _ rfl lq2 lq24).mono ?_; rintro e w4 ⟨he4, hb4⟩; rw [HR1.out] at he4; subst he4; have H2 := below_then (w1 := w1) hb4 lq4; obtain ⟨b5, b2⟩ := cl2 H2 c5 c2; have hl4 : w.heap.size < w4.heap.size := Nat.lt_of_lt_of_le hwl H2.size; have bk := cLt H2 kk0; have hlb4 : b < w4.heap.size := Nat.lt_of_lt_of_le hbl H2.size)) | fail
 all_goals
  go_wp2; go_ret; exact ⟨rfl, hb1.trans (H2.mono hb1.size)⟩
theorem exC_ok (D : Nat) (hRi : RightOk D) (T : Nd) (A : Option Addr) (c : Nat) (K : Option Addr) (d : Nat) (w : World) (hD : T.depth ≤ D + 1) (hW : T.weight ≤ 1048576) (hN : NodeAt w T A c K d) (hT : Lib.Utf8Tabs 0 1 w) (hr1 : rowB T.kids [(Sh.or2 .none .expr).ev Nd.right, Sh.block.ev Nd.right] = true) (q : Nd) (hq : T.kids[0]? = some q) (hte : (T.text.size == 0) = false) (hnb : nameB T.text.data.toList = false) :
  Calls Tryz.prog 78 #[ndV T A c K d] w fun e w' => e = .returned (.bool false) ∧ Below w.heap.size w w' := by
 have hWi := within_kids hD hW
 have hkp := hN.parts
 have hbx := (Below.refl w.heap.size w).alloc (Nat.le_refl _) (bx T.kind T A c K d)
 have HRow := Lh (fun W (hb : Below (w.alloc (bx T.kind T A c K d)).heap.size (w.alloc (bx T.kind T A c K d)) W) (L : List (Nd → Bool)) (m : Nat) A hm hL hmc => row_ok D T.kids T.kids.length K d L m A m W rfl (hkp.2.2.2.2.2.2.2.2.2.later (hbx.trans (hb.mono hbx.size))) hWi hm hL hkp.2.2.2.2.1 hkp.2.2.2.2.2.1 (Nat.le_refl _) hmc)
 have HT := Lh (Utf8Tabs_below hT hbx)
 have HRi := Lh hRi
 have htx : T.text.size ≤ 1048576 := by have := T.weight_eq; omega
 have HNm := Lh (fun W => isName_ok T.text W lq29)
 have HTE := Lh (text_empty T.text)
 clear hkp hWi hT hRi htx
 have HR1 := Lh hr1
 have hl2 : T.kids.length = 2 := by
  rcases Nat.decEq T.kids.length 2 with h | h
  ·rw [rowB_len h] at hr1; cases hr1
  ·exact h
 obtain ⟨b, off, A', c', K', d', hKe, hC, _⟩ := hN.kid hq
 rw [Nat.zero_mul, Nat.add_zero] at hC
 subst hKe
 have kk1 := cLt hbx hC.1
 clear hr1 hq hbx hC
 have i0 : (0 : Int) < (T.kids.length : Int) := by omega
 have i1 : 0 < T.kids.length := by omega
 clear hl2
 have HNB := Lh hnb
 clear hnb
 have e1 : T.text.toList.isEmpty = false := by rw [HTE.out, hte]
 obtain ⟨hm1, hm2, hrm, hw32, hk1, hk2, ⟨hk64a, hk64b⟩, ⟨ha64a, ha64b⟩, hts, hKs, HK⟩ := hN.hd
 obtain ⟨hb1, c0, c1, c2, c3, c4, c5⟩ := bxn w T A c (some ⟨b, off, none⟩) d
 unfold ndV
 clear hKs hN
 go_enter Tryz.func78, Tryz.ntmps78
 go_wp2_with fail
 generalize w.alloc (bx T.kind T A c (some ⟨b, off, none⟩) d) = w1 at *
 have hwl : w.heap.size < w1.heap.size := blt c5
 have hun : undef = Value.tuple #[] := rfl
 have kk0 := kk1
 have hbl : b < w1.heap.size := blt kk0
 first | go_region_with (first | (go_at_call 69; refine (or2_ok D _ _ _ .none .expr rfl lq3).mono ?_; rintro e w3 ⟨⟨v, rfl, hv⟩, hb3⟩; have hv' := hv; obtain ⟨f1, cp1, hv1, _⟩ := hv'; subst hv1; have H1 := below_then (w1 := w1) hb3 lq7; obtain ⟨a5, a2⟩ := cl2 H1 c5 c2; have hl3 : w.heap.size < w3.heap.size := Nat.lt_of_lt_of_le hwl H1.size; have ak := cLt H1 kk0; have hlb3 : b < w3.heap.size := Nat.lt_of_lt_of_le hbl H1.size) | (go_at_call 127; refine (HRow.out _ lq4 [(Sh.or2 .none .expr).ev Nd.right, Sh.block.ev Nd.right] 2 _ rfl lq2 lq24).mono ?_; rintro e w4 ⟨he4, hb4⟩; rw [HR1.out] at he4; subst he4; have H2 := below_then (w1 := w1) hb4 lq4; obtain ⟨b5, b2⟩ := cl2 H2 c5 c2; have hl4 : w.heap.size < w4.heap.size := Nat.lt_of_lt_of_le hwl H2.size; have bk := cLt H2 kk0; have hlb4 : b < w4.heap.size := Nat.lt_of_lt_of_le hbl H2.size) | (go_at_call 73; refine (HNm.out _).mono ?_; rintro e w5 ⟨he5, hb5⟩; rw [HNB.out] at he5; subst he5; have H3 := below_then (w1 := w1) hb5 lq5; obtain ⟨d5, dk⟩ := cl2 H3 c5 kk0; have hl5 : w.heap.size < w5.heap.size := Nat.lt_of_lt_of_le hwl H3.size; have hlb5 : b < w5.heap.size := Nat.lt_of_lt_of_le hbl H3.size)) | fail
 all_goals
  go_wp2; go_ret; exact ⟨rfl, hb1.trans (H3.mono hb1.size)⟩
section
variable (D : Nat) (hRi : RightOk D) (T : Nd) (A : Option Addr) (c : Nat) (K : Option Addr) (d : Nat) (w : World) (hD : T.depth ≤ D + 1) (hW : T.weight ≤ 1048576) (hN : NodeAt w T A c K d) (hT : Lib.Utf8Tabs 0 1 w) (hr1 : rowB T.kids [(Sh.or2 .none .expr).ev Nd.right, Sh.block.ev Nd.right] = true) (q : Nd) (hq : T.kids[0]? = some q) (hte : (T.text.size == 0) = false) (hnb : nameB T.text.data.toList = true)
include D hRi T A c K d w hD hW hN hT hr1 q hq hte hnb
theorem exD1_ok (e2 : (q.kind == 0) = true) :
  Calls Tryz.prog 78 #[ndV T A c K d] w fun e w' => e = .returned (.bool false) ∧ Below w.heap.size w w' := by
 have hWi := within_kids hD hW
 have hkp := hN.parts
 have hbx := (Below.refl w.heap.size w).alloc (Nat.le_refl _) (bx T.kind T A c K d)
 have HRow := Lh (fun W (hb : Below (w.alloc (bx T.kind T A c K d)).heap.size (w.alloc (bx T.kind T A c K d)) W) (L : List (Nd → Bool)) (m : Nat) A hm hL hmc => row_ok D T.kids T.kids.length K d L m A m W rfl (hkp.2.2.2.2.2.2.2.2.2.later (hbx.trans (hb.mono hbx.size))) hWi hm hL hkp.2.2.2.2.1 hkp.2.2.2.2.2.1 (Nat.le_refl _) hmc)
 have HT := Lh (Utf8Tabs_below hT hbx)
 have HRi := Lh hRi
 have htx : T.text.size ≤ 1048576 := by have := T.weight_eq; omega
 have HNm := Lh (fun W => isName_ok T.text W lq29)
 have HTE := Lh (text_empty T.text)
 clear hkp hWi hT hRi htx
 have HR1 := Lh hr1
 have hl2 : T.kids.length = 2 := by
  rcases Nat.decEq T.kids.length 2 with h | h
  ·rw [rowB_len h] at hr1; cases hr1
  ·exact h
 obtain ⟨b, off, A', c', K', d', hKe, hC, _⟩ := hN.kid hq
 rw [Nat.zero_mul, Nat.add_zero] at hC
 subst hKe
 have kk1 := cLt hbx hC.1
 clear hr1 hq hbx hC
 have i0 : (0 : Int) < (T.kids.length : Int) := by omega
 have i1 : 0 < T.kids.length := by omega
 clear hl2
 have HNB := Lh hnb
 clear hnb
 have e1 : T.text.toList.isEmpty = false := by rw [HTE.out, hte]
 have e3 : (q.kind != 0) = false := by simp [bne, e2]
 exact lv18
theorem exD0_ok (e2 : (q.kind == 0) = false) :
  Calls Tryz.prog 78 #[ndV T A c K d] w fun e w' => e = .returned (.bool true) ∧ Below w.heap.size w w' := by
 have hWi := within_kids hD hW
 have hkp := hN.parts
 have hbx := (Below.refl w.heap.size w).alloc (Nat.le_refl _) (bx T.kind T A c K d)
 have HRow := Lh (fun W (hb : Below (w.alloc (bx T.kind T A c K d)).heap.size (w.alloc (bx T.kind T A c K d)) W) (L : List (Nd → Bool)) (m : Nat) A hm hL hmc => row_ok D T.kids T.kids.length K d L m A m W rfl (hkp.2.2.2.2.2.2.2.2.2.later (hbx.trans (hb.mono hbx.size))) hWi hm hL hkp.2.2.2.2.1 hkp.2.2.2.2.2.1 (Nat.le_refl _) hmc)
 have HT := Lh (Utf8Tabs_below hT hbx)
 have HRi := Lh hRi
 have htx : T.text.size ≤ 1048576 := by have := T.weight_eq; omega
 have HNm := Lh (fun W => isName_ok T.text W lq29)
 have HTE := Lh (text_empty T.text)
 clear hkp hWi hT hRi htx
 have HR1 := Lh hr1
 have hl2 : T.kids.length = 2 := by
  rcases Nat.decEq T.kids.length 2 with h | h
  ·rw [rowB_len h] at hr1; cases hr1
  ·exact h
 obtain ⟨b, off, A', c', K', d', hKe, hC, _⟩ := hN.kid hq
 rw [Nat.zero_mul, Nat.add_zero] at hC
 subst hKe
 have kk1 := cLt hbx hC.1
 clear hr1 hq hbx hC
 have i0 : (0 : Int) < (T.kids.length : Int) := by omega
 have i1 : 0 < T.kids.length := by omega
 clear hl2
 have HNB := Lh hnb
 clear hnb
 have e1 : T.text.toList.isEmpty = false := by rw [HTE.out, hte]
 have e3 : (q.kind != 0) = true := by simp [bne, e2]
 exact lv18
end

theorem tExcept_ok (D : Nat) (hRi : RightOk D) (T : Nd) (A : Option Addr) (c : Nat) (K : Option Addr) (d : Nat) (w : World) (hD : T.depth ≤ D + 1) (hW : T.weight ≤ 1048576) (hN : NodeAt w T A c K d) (hT : Lib.Utf8Tabs 0 1 w) :
  Calls Tryz.prog 78 #[ndV T A c K d] w fun e w' => e = .returned (.bool (Fm.exc.ev Nd.right T)) ∧ Below w.heap.size w w' := by
 have hEv : Fm.exc.ev Nd.right T = (rowB T.kids [(Sh.or2 .none .expr).ev Nd.right, Sh.block.ev Nd.right] && (T.text.size == 0 || nameB T.text.data.toList && !(T.kids.take 1).any (fun q => q.kind == 0))) := rfl
 rw [hEv]
 cases hr1 : rowB T.kids [(Sh.or2 .none .expr).ev Nd.right, Sh.block.ev Nd.right] with
 | false => exact exA_ok D hRi T A c K d w hD hW hN hT hr1
 | true =>
  have hl2 : T.kids.length = 2 := by
   rcases Nat.decEq T.kids.length 2 with h | h
   ·rw [rowB_len h] at hr1; cases hr1
   ·exact h
  obtain ⟨q, hq⟩ : ∃ q, T.kids[0]? = some q := ⟨_, gEo⟩; have ht1 : T.kids.take 1 = [q] := by
   cases hk : T.kids with
   | nil => rw [hk] at hq; simp at hq
   | cons a r => rw [hk] at hq; simp at hq; simp [hq]
  rw [ht1]
  cases hte : T.text.size == 0 with
  | true => exact exB_ok D hRi T A c K d w hD hW hN hT hr1 q hq hte
  | false =>
   cases hnb : nameB T.text.data.toList with
   | false => exact exC_ok D hRi T A c K d w hD hW hN hT hr1 q hq hte hnb
   | true =>
    cases e2 : q.kind == 0 with
    | true =>
     have := exD1_ok D hRi T A c K d w hD hW hN hT hr1 q hq hte hnb e2
     simpa [e2] using this
    | false =>
     have := exD0_ok D hRi T A c K d w hD hW hN hT hr1 q hq hte hnb e2
     simpa [e2] using this
end
end Go.Proofs.YtjefhdlncikhmaaGreatDoor
