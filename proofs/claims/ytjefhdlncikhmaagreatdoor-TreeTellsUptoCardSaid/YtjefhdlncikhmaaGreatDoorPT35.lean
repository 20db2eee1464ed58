/- Joined by a program: Rgt, Wlk, Dps, Chk. -/
import Derived.Test.YtjefhdlncikhmaaGreatDoorPT34
namespace Go.Proofs.YtjefhdlncikhmaaGreatDoor
set_option linter.unusedVariables false
set_option linter.unusedSimpArgs false
set_option maxRecDepth 1000000
set_option maxHeartbeats 16000000
section
open Go.RowKit
open List (length_append length_cons length_nil length_singleton)
theorem run_eqIn_func (d : Nat) (W : World) (fn : Fn) (a b : Array Value) : (Op.equalIn (d + 1) 69 (.func fn a b) .nilFunc).run Tryz.prog W = .ok false W := by
 have hu := run_underlying Tryz.underlying69
 unfold Op.equalIn
 simp [go_sem, hu]
theorem run_eqIn_nil (d : Nat) (W : World) : (Op.equalIn (d + 1) 69 .nilFunc .nilFunc).run Tryz.prog W = .ok true W := by
 have hu := run_underlying Tryz.underlying69
 unfold Op.equalIn
 simp [go_sem, hu]
theorem run_funcEq (W : World) (fn : Fn) (a b : Array Value) : (binOp .eql 69 (.func fn a b) .nilFunc).run Tryz.prog W = .ok (.bool false) W := by
 have h := run_eqIn_func 9999 W fn a b
 simp [binOp, Op.equal, go_sem, show Op.maxDepth = 9999 + 1 from rfl, h]
theorem run_nilEq (W : World) : (binOp .eql 69 .nilFunc .nilFunc).run Tryz.prog W = .ok (.bool true) W := by
 have h := run_eqIn_nil 9999 W
 simp [binOp, Op.equal, go_sem, show Op.maxDepth = 9999 + 1 from rfl, h]
theorem form_box (w : World) (a b : Value) (t : TypeId) : (w.alloc (.cells #[a, b] t)).cell? ⟨w.heap.size, 0, none⟩ = some a ∧ (w.alloc (.cells #[a, b] t)).cell? ⟨w.heap.size, 1, none⟩ = some b :=
 have h := heap_alloc_new w (.cells #[a, b] t)
 ⟨cell_of_row _ _ 0 _ _ _ h, cell_of_row _ _ 1 _ _ _ h⟩
theorem right_none (T : Nd) (A : Option Addr) (c : Nat) (K : Option Addr) (d : Nat) (w : World) (hN : NodeAt w T A c K d) (hf : formOf T.kind = none) :
  Calls Tryz.prog 27 #[ndV T A c K d] w fun e w' => e = .returned (.bool T.right) ∧ Below w.heap.size w w' := by
 have HR := Lh (show T.right = false by rw [right_eq, hf])
 have HS := Lh (fun W => forms_none T.kind W hf)
 obtain ⟨hm1, hm2, hrm, hw32, hk1, hk2, hk64, ha64, hts, hKs⟩ := hN.parts
 unfold maxLen at hm2 hk2 hts
 obtain ⟨hk64a, hk64b⟩ := hk64
 obtain ⟨ha64a, ha64b⟩ := ha64
 obtain ⟨hb1, c0, c1, c2, c3, c4, c5⟩ := bxn w T A c K d
 have hEq := run_nilEq
 clear hf hKs hN
 unfold ndV
 go_enter Tryz.func27, Tryz.ntmps27
 go_wp2_with (go_at_call 44; refine (HS.out _).mono ?_; rintro e w3 ⟨rfl, hb3⟩; obtain ⟨p0, p1, p2, p3, p4, p5⟩ := cl6 hb3 c0 c1 c2 c3 c4 c5)
 go_ret
 exact ⟨by rw [HR.out]; rfl, (hb1.trans (hb3.mono hb1.size)).alloc (Nat.le_trans hb1.size hb3.size) _⟩
theorem right_some (D : Nat) (tx : Tx) (fm : Fm) (T : Nd) (A : Option Addr) (c : Nat) (K : Option Addr) (d : Nat) (w : World) (hD : T.depth ≤ D + 1) (hW : T.weight ≤ 1048576) (hN : NodeAt w T A c K d) (HS : ∀ W, Below w.heap.size w W → Calls Tryz.prog 44 #[.int .i64 T.kind] W (FormS D tx fm W)) (t n k : Bool) (ht : tx.ev T.text = t) (hn : (if T.kind = 32 then numB T else noNumB T) = n) (hk : fm.ev Nd.right T = k) :
  Calls Tryz.prog 27 #[ndV T A c K d] w fun e w' => e = .returned (.bool (t && n && k)) ∧ Below w.heap.size w w' := by
 have htx : T.text.size ≤ 1048576 := by have := T.weight_eq; omega
 have HS := Lh HS
 have HTx := Lh ht
 have HKx := Lh hk
 have HN := Lh hN
 have HD := Lh hD
 have HW := Lh hW
 have HL := Lh htx
 have HNo := Lh (fun W (hb : Below w.heap.size w W) => by
  have := tNoNum_ok T A c K d W (hN.later hb); unfold ndV at this
  exact this)
 have HNu := Lh (fun W (hb : Below w.heap.size w W) => tNumber_ok T.neg A c T.mag W (hN.parts.2.2.1.later hb) hN.parts.1 hN.parts.2.1)
 obtain ⟨hm1, hm2, hrm, hw32, hk1, hk2, hk64, ha64, hts, hKs⟩ := hN.parts
 unfold maxLen at hm2 hk2 hts
 obtain ⟨hk64a, hk64b⟩ := hk64
 obtain ⟨ha64a, ha64b⟩ := ha64
 obtain ⟨hb1, c0, c1, c2, c3, c4, c5⟩ := bxn w T A c K d
 have hEq := run_funcEq
 have HB1 := Lh hb1
 clear hKs hN hD hW ht hk htx
 unfold ndV
 have hsz1 : w.heap.size < (w.alloc (bx T.kind T A c K d)).heap.size := by simp
 cases t
 ·go_enter Tryz.func27, Tryz.ntmps27
  go_wp2_with (first | (go_at_call 44; refine (HS.out _ hb1).mono ?_; rintro e w3 ⟨Q, f1, x1, f2, x2, rfl, hq, htq, hsq, hb3⟩; obtain ⟨p0, p1, p2, p3, p4, p5⟩ := cl6 hb3 c0 c1 c2 c3 c4 c5; have hl3 := blt p0; have hb4 := (Below.refl w3.heap.size w3).alloc (Nat.le_refl _) (.cells #[.func (.func f1) #[] x1, .func (.func f2) #[] x2] 71); have htq4 := htq.later hb4; have hsq4 := hsq.later hb4; obtain ⟨F0, F1⟩ := form_box w3 (.func (.func f1) #[] x1) (.func (.func f2) #[] x2) 71; obtain ⟨q0, q1, q2, q3, q4, q5⟩ := cl6 hb4 p0 p1 p2 p3 p4 p5; have hw3 := hb1.trans (hb3.mono hb1.size); have hw4 := hw3.trans (hb4.mono hw3.size); obtain ⟨f1', x1', e1, hr1, ht1⟩ := htq4; injection e1 with e1 e2 e3; injection e1 with e1; subst e1 e3; have HT1 := ht1 _ (KeepsQ.below (Below.refl _ _)) T.text HL.out; rw [HTx.out] at HT1; have HT1 := Lh HT1; obtain ⟨f2', x2', e1, hr2, hs2⟩ := hsq4; injection e1 with e1 e2 e3; injection e1 with e1; subst e1 e3; have HS2 := Lh hs2; clear ht1 hs2 htq hsq) | (with_reducible refine HT1.out.mono ?_; rintro e w5 ⟨rfl, hb5⟩; obtain ⟨G0, G1⟩ := cl2 hb5 F0 F1; have hgl := blt G0; obtain ⟨r0, r1, r2, r3, r4, r5⟩ := cl6 hb5 q0 q1 q2 q3 q4 q5; have hl5 := blt r0; have hw5 := hw4.trans (hb5.mono hw4.size)))
  go_ret; exact ⟨rfl, hw5⟩
 ·by_cases h32 : T.kind = 32
  ·have e1 : (T.kind == 32) = true := by simpa using h32
   rw [if_pos h32] at hn; have HNB := Lh (show numL T.neg T.mag = n from hn); clear h32 hn
   cases n
   ·go_enter Tryz.func27, Tryz.ntmps27
    go_wp2_with (first | (go_at_call 44; refine (HS.out _ hb1).mono ?_; rintro e w3 ⟨Q, f1, x1, f2, x2, rfl, hq, htq, hsq, hb3⟩; obtain ⟨p0, p1, p2, p3, p4, p5⟩ := cl6 hb3 c0 c1 c2 c3 c4 c5; have hl3 := blt p0; have hb4 := (Below.refl w3.heap.size w3).alloc (Nat.le_refl _) (.cells #[.func (.func f1) #[] x1, .func (.func f2) #[] x2] 71); have htq4 := htq.later hb4; have hsq4 := hsq.later hb4; obtain ⟨F0, F1⟩ := form_box w3 (.func (.func f1) #[] x1) (.func (.func f2) #[] x2) 71; obtain ⟨q0, q1, q2, q3, q4, q5⟩ := cl6 hb4 p0 p1 p2 p3 p4 p5; have hw3 := hb1.trans (hb3.mono hb1.size); have hw4 := hw3.trans (hb4.mono hw3.size); obtain ⟨f1', x1', e1, hr1, ht1⟩ := htq4; injection e1 with e1 e2 e3; injection e1 with e1; subst e1 e3; have HT1 := ht1 _ (KeepsQ.below (Below.refl _ _)) T.text HL.out; rw [HTx.out] at HT1; have HT1 := Lh HT1; obtain ⟨f2', x2', e1, hr2, hs2⟩ := hsq4; injection e1 with e1 e2 e3; injection e1 with e1; subst e1 e3; have HS2 := Lh hs2; clear ht1 hs2 htq hsq) | (with_reducible refine HT1.out.mono ?_; rintro e w5 ⟨rfl, hb5⟩; obtain ⟨G0, G1⟩ := cl2 hb5 F0 F1; have hgl := blt G0; obtain ⟨r0, r1, r2, r3, r4, r5⟩ := cl6 hb5 q0 q1 q2 q3 q4 q5; have hl5 := blt r0; have hw5 := hw4.trans (hb5.mono hw4.size)) | (go_at_call 45; refine (HNu.out _ hw5).mono ?_; rintro e w6 ⟨he6, hb6⟩; rw [HNB.out] at he6; subst he6; have J1 := cLt hb6 G1; have hjl := blt J1; obtain ⟨s0, s1, s2, s3, s4, s5⟩ := cl6 hb6 r0 r1 r2 r3 r4 r5; have hl6 := blt s0; have hw6 := hw5.trans (hb6.mono hw5.size); have hI := HS2.out w6 (KeepsQ.below (hb5.trans (hb6.mono hb5.size))) T A c K d HD.out HW.out (HN.out.later hw6); rw [HKx.out] at hI; unfold ndV at hI; have HI := Lh hI; clear hI))
    go_ret; exact ⟨rfl, hw6⟩
   ·cases k
    ·exact lv27
    ·exact lv27
  ·have e1 : (T.kind == 32) = false := by simpa using h32
   rw [if_neg h32] at hn; have HNB := Lh (show _ = n from hn); clear h32 hn
   cases n
   ·go_enter Tryz.func27, Tryz.ntmps27
    go_wp2_with (first | (go_at_call 44; refine (HS.out _ hb1).mono ?_; rintro e w3 ⟨Q, f1, x1, f2, x2, rfl, hq, htq, hsq, hb3⟩; obtain ⟨p0, p1, p2, p3, p4, p5⟩ := cl6 hb3 c0 c1 c2 c3 c4 c5; have hl3 := blt p0; have hb4 := (Below.refl w3.heap.size w3).alloc (Nat.le_refl _) (.cells #[.func (.func f1) #[] x1, .func (.func f2) #[] x2] 71); have htq4 := htq.later hb4; have hsq4 := hsq.later hb4; obtain ⟨F0, F1⟩ := form_box w3 (.func (.func f1) #[] x1) (.func (.func f2) #[] x2) 71; obtain ⟨q0, q1, q2, q3, q4, q5⟩ := cl6 hb4 p0 p1 p2 p3 p4 p5; have hw3 := hb1.trans (hb3.mono hb1.size); have hw4 := hw3.trans (hb4.mono hw3.size); obtain ⟨f1', x1', e1, hr1, ht1⟩ := htq4; injection e1 with e1 e2 e3; injection e1 with e1; subst e1 e3; have HT1 := ht1 _ (KeepsQ.below (Below.refl _ _)) T.text HL.out; rw [HTx.out] at HT1; have HT1 := Lh HT1; obtain ⟨f2', x2', e1, hr2, hs2⟩ := hsq4; injection e1 with e1 e2 e3; injection e1 with e1; subst e1 e3; have HS2 := Lh hs2; clear ht1 hs2 htq hsq) | (with_reducible refine HT1.out.mono ?_; rintro e w5 ⟨rfl, hb5⟩; obtain ⟨G0, G1⟩ := cl2 hb5 F0 F1; have hgl := blt G0; obtain ⟨r0, r1, r2, r3, r4, r5⟩ := cl6 hb5 q0 q1 q2 q3 q4 q5; have hl5 := blt r0; have hw5 := hw4.trans (hb5.mono hw4.size)) | (go_at_call 46; refine (HNo.out _ hw5).mono ?_; rintro e w6 ⟨he6, hb6⟩; rw [HNB.out] at he6; subst he6; have J1 := cLt hb6 G1; have hjl := blt J1; obtain ⟨s0, s1, s2, s3, s4, s5⟩ := cl6 hb6 r0 r1 r2 r3 r4 r5; have hl6 := blt s0; have hw6 := hw5.trans (hb6.mono hw5.size); have hI := HS2.out w6 (KeepsQ.below (hb5.trans (hb6.mono hb5.size))) T A c K d HD.out HW.out (HN.out.later hw6); rw [HKx.out] at hI; unfold ndV at hI; have HI := Lh hI; clear hI))
    go_ret; exact ⟨rfl, hw6⟩
   ·cases k
    ·exact lv28
    ·exact lv28
theorem right_ok : ∀ D, RightOk D := by
 intro D
 induction D with
 | zero => intro T A c K d W hD; rw [T.depth_eq] at hD; omega
 | succ D ih =>
  intro T A c K d W hD hW hN hT
  cases hf : formOf T.kind with
  | none => exact right_none T A c K d W hN hf
  | some x =>
   obtain ⟨tx, fm⟩ := x; have := right_some D tx fm T A c K d W hD hW hN (fun W' hb => forms_some D ih T.kind tx fm W' (Utf8Tabs_below hT hb) hf) _ _ _ rfl rfl rfl; rw [right_eq, hf]; exact this
section
variable {σ : Type} (step : σ → Nat → Nd → σ × Bool)
mutual
def walkF (s : σ) (n : Nat) : Nd → σ × Bool
 | .mk k a t b m ks => if (step s n (.mk k a t b m ks)).2 then walkL (step s n (.mk k a t b m ks)).1 (n + 1) ks else ((step s n (.mk k a t b m ks)).1, false)
def walkL (s : σ) (n : Nat) : List Nd → σ × Bool
 | [] => (s, true)
 | t :: r => if (walkF s n t).2 then walkL (walkF s n t).1 n r else ((walkF s n t).1, false)
end
theorem walkF_eq (s : σ) (n : Nat) (T : Nd) : walkF step s n T = if (step s n T).2 then walkL step (step s n T).1 (n + 1) T.kids else ((step s n T).1, false) := by
 cases T; rw [walkF]; rfl
theorem walkL_drop {l : List Nd} {k : Nat} {t : Nd} (h : l[k]? = some t) (s : σ) (n : Nat) : walkL step s n (l.drop k) = if (walkF step s n t).2 then walkL step (walkF step s n t).1 n (l.drop (k + 1)) else ((walkF step s n t).1, false) := by
 obtain ⟨h1, rfl⟩ := List.getElem?_eq_some_iff.1 h
 rw [List.drop_eq_getElem_cons h1, walkL]
end
theorem counts_drop {l : List Nd} {k : Nat} {t : Nd} (h : l[k]? = some t) : counts (l.drop k) = t.count + counts (l.drop (k + 1)) := by
 obtain ⟨h1, rfl⟩ := List.getElem?_eq_some_iff.1 h
 rw [List.drop_eq_getElem_cons h1, counts]
structure Cb {σ : Type} (Q : Nat → Prop) (Rep : Nat → σ → World → Prop) (step : σ → Nat → Nd → σ × Bool) (w0 : World) (f : FuncId) (caps : Array Value) : Prop where
 q0 : ∀ b, Q b → w0.heap.size ≤ b
 later : ∀ k s W W', Rep k s W → Below W.heap.size W W' → Rep k s W'
 less : ∀ k s W, Rep (k + 1) s W → Rep k s W
 q1 : ∀ k s W, Rep k s W → ∀ b, Q b → b < W.heap.size
 run : ∀ args W, (callFunc f args).run Tryz.prog W = .ok (.enter f args) W
 call : ∀ k s W n T A c K d, Below w0.heap.size w0 W → Rep (k + 1) s W → NodeAt W T A c K d → T.weight ≤ 1048576 → n ≤ 1048576 →
  Calls Tryz.prog f (#[.int .i64 ((n : Nat) : Int), ndV T A c K d] ++ caps) W fun e w' => e = .returned (.bool (step s n T).2) ∧ Rep k (step s n T).1 w' ∧ KeepsQ Q W w'
theorem Cb.lessN {σ : Type} {Q : Nat → Prop} {Rep : Nat → σ → World → Prop} {step : σ → Nat → Nd → σ × Bool} {w0 : World} {f : FuncId} {caps : Array Value} (h : Cb Q Rep step w0 f caps) (j k : Nat) (s : σ) (W : World) (hR : Rep (k + j) s W) : Rep k s W := by
 induction j with
 | zero => exact hR
 | succ j ih => exact ih (h.less _ _ _ hR)
theorem walk_ok {σ : Type} {Q : Nat → Prop} {Rep : Nat → σ → World → Prop} {step : σ → Nat → Nd → σ × Bool} {w0 : World} {f : FuncId} {caps : Array Value} (hCb : Cb Q Rep step w0 f caps) (T : Nd) : ∀ (A : Option Addr) (c : Nat) (K : Option Addr) (d : Nat) (n k : Nat) (s : σ) (w : World), NodeAt w0 T A c K d → Below w0.heap.size w0 w → Rep (k + T.count) s w → T.weight ≤ 1048576 → n + T.depth ≤ 1048576 →
  Calls Tryz.prog 28 #[.int .i64 ((n : Nat) : Int), ndV T A c K d, .func (.func f) #[] caps] w fun e w' => e = .returned (.bool (walkF step s n T).2) ∧ Rep k (walkF step s n T).1 w' ∧ KeepsQ Q w w' := by
 induction T using Nd.ind with
 | h T ih =>
  intro A c K d n k s w hN hb0 hR hW hD; have hrn := hCb.run; have hTd := T.depth_eq; have hNw := hN.later hb0; have hbx := (Below.refl w.heap.size w).alloc (Nat.le_refl _) (bx T.kind T A c K d); have hq1 := hCb.q1 _ _ _ hR; rw [T.count_eq, show k + (counts T.kids + 1) = (k + counts T.kids) + 1 by omega] at hR; have hI := hCb.call (k + counts T.kids) s (w.alloc (bx T.kind T A c K d)) n T A c K d (hb0.trans (hbx.mono hb0.size)) (hCb.later _ _ _ _ hR hbx) (hNw.later hbx) hW lq29; unfold ndV at hI; have HI := Lh hI; have hb1 := hbx
  obtain ⟨c0, c1, c2, c3, c4, c5⟩ := (cellsN_new w T A c K d 27).box; have hkp := hNw.parts; obtain ⟨hm1, hm2, _, _, hk1, hk2, _, _, hts, _⟩ := hkp; unfold maxLen at hm2 hk2 hts; have HK := Lh (fun (i : Nat) (t : Nd) (hi : T.kids[i]? = some t) => hNw.kid hi); have HK0 := Lh (fun (i : Nat) (t : Nd) (hi : T.kids[i]? = some t) => hN.kid hi); have HQ := Lh hq1; have HE := Lh (walkF_eq step s n T); have HB0 := Lh hb0; have hns : n ≤ 1048576 := by omega
  have hwl : w.heap.size < (w.alloc (bx T.kind T A c K d)).heap.size := by simp
  have hkw : T.kids.length ≤ 1048576 := by have := weights_len T.kids; have := T.weight_eq; omega
  clear hI hNw hN hbx hq1 hR hb0; unfold ndV
  generalize step s n T = r at *
  obtain ⟨s1, bb⟩ := r
  cases bb with
  | false =>
   have HE2 := Lh (show walkF step s n T = (s1, false) from HE.out); clear HE; go_enter Tryz.func28, Tryz.ntmps28; go_wp2_with (with_reducible refine HI.out.mono ?_; rintro e w3 ⟨rfl, hr3, hk3⟩); go_ret; exact ⟨by rw [HE2.out]; rfl, by rw [HE2.out]; exact hCb.lessN _ _ _ _ hr3, (KeepsQ.below hb1).trans hk3⟩
  | true =>
   have HE2 := Lh (show walkF step s n T = walkL step s1 (n + 1) T.kids from HE.out); clear HE; go_enter Tryz.func28, Tryz.ntmps28; go_wp2_with (with_reducible refine HI.out.mono ?_; rintro e w3 ⟨rfl, hr3, hk3⟩; have p5 := cellQ hk3 (fun x => absurd (HQ.out _ x) lq29) c5; have p4 := cellQ hk3 (fun x => absurd (HQ.out _ x) lq29) c4; have hlw3 := blt p5); have HK3 := Lh ((KeepsQ.below hb1).trans hk3); clear hk3
   go_loopw [17] (fun iv wr => ∃ (i : Nat) (s' : σ), iv = .int .i64 i ∧ i ≤ T.kids.length ∧ Hid (walkL step s1 (n + 1) T.kids = walkL step s' (n + 1) (T.kids.drop i)) ∧ Hid (Rep (k + counts (T.kids.drop i)) s' wr) ∧ Hid (KeepsQ Q w3 wr)) (fun iv _ => T.kids.length - (intOf iv).toNat)
   case atStart => exact ⟨0, s1, rfl, Nat.zero_le _, Lh lq30, Lh (by simpa using hr3), Lh (KeepsQ.below (Below.refl _ _))⟩
   case round =>
    obtain ⟨i, s', rfl, hi, hWl, hRr, hKr⟩ := hrel; have d5 := cellQ hKr.out (fun x => absurd (HQ.out _ x) lq29) p5; have hlw := blt d5; have HKw := Lh (HK3.out.trans hKr.out)
    by_cases hil : i < T.kids.length
    ·have o1 : decide ((i : Int) < (T.kids.length : Int)) = true := dTo; have o2 : decide (i < T.kids.length) = true := dTr hil; obtain ⟨t, ht⟩ : ∃ t, T.kids[i]? = some t := ⟨_, List.getElem?_eq_getElem hil⟩; obtain ⟨b, off, A', c', K', d', hKe, hC, hNt⟩ := HK.out i t ht; obtain ⟨b', off', A2, c2', K2, d2, hKe2, hC2, hNt0⟩ := HK0.out i t ht; subst hKe; have hbl : Below w0.heap.size w0 wr := HB0.out.trans ((HKw.out.low HB0.out.size hCb.q0)); injection hKe2 with e1
     injection e1 with e1 e2
     subst e1 e2; have hCw := hC2.later hbl; obtain ⟨n0, n1, n2, n3, n4, n5⟩ := hCw; have htm := mog ht; have htd := T.depth_kid htm; have htw := T.weight_kid htm; have hbt := (Below.refl wr.heap.size wr).alloc (Nat.le_refl _) (.cells #[.int .i64 t.kind, .int .i64 t.pos, .string t.text, .bool t.neg, .slice A2 t.mag.length c2', .slice K2 t.kids.length d2] 27); have hR2 := hRr.out; rw [counts_drop ht, show k + (t.count + counts (T.kids.drop (i + 1))) = (k + counts (T.kids.drop (i + 1))) + t.count by omega] at hR2
     have hI := ih t htm A2 c2' K2 d2 (n + 1) (k + counts (T.kids.drop (i + 1))) s' (wr.alloc (.cells #[.int .i64 t.kind, .int .i64 t.pos, .string t.text, .bool t.neg, .slice A2 t.mag.length c2', .slice K2 t.kids.length d2] 27)) hNt0 (hbl.trans (hbt.mono hbl.size)) (hCb.later _ _ _ _ hR2 hbt) lq29 lq29; unfold ndV at hI; rw [show ((n + 1 : Nat) : Int) = (n : Int) + 1 by omega] at hI; have HI2 := Lh hI; have HWD := Lh (walkL_drop step ht s' (n + 1)); clear hI hR2 hC hNt hC2 hNt0 ht htm hbl
     generalize walkF step s' (n + 1) t = r at *
     obtain ⟨s2, bb⟩ := r
     cases bb with
     | true =>
      go_wp2_with (go_at_call 28; refine HI2.out.mono ?_; rintro e w5 ⟨rfl, hr5, hk5⟩)
      go_roundw
      case rel => exact ⟨i + 1, s2, by go_num, by omega, Lh (hWl.out.trans HWD.out), Lh hr5, Lh (hKr.out.trans ((KeepsQ.below hbt).trans hk5))⟩
      case measure => simp [intOf]; omega
     | false =>
      go_wp2_with (go_at_call 28; refine HI2.out.mono ?_; rintro e w5 ⟨rfl, hr5, hk5⟩); go_ret; have hEE : walkF step s n T = (s2, false) := HE2.out.trans (hWl.out.trans HWD.out); exact ⟨by rw [hEE]; rfl, by rw [hEE]; exact hCb.lessN _ _ _ _ hr5, HKw.out.trans ((KeepsQ.below hbt).trans hk5)⟩
    ·have o1 : decide ((i : Int) < (T.kids.length : Int)) = false := dFo; have o2 : decide (i < T.kids.length) = false := dFa hil; have hW2 := hWl.out; have hRz := hRr.out; rw [List.drop_eq_nil_of_le lq29] at hW2 hRz; rw [walkL] at hW2; have HWZ := Lh (show walkF step s n T = (s', true) from HE2.out.trans hW2); have HRZ := Lh (show Rep k s' wr from hRz); clear hW2 hRz; go_wp2_with fail; go_ret; exact ⟨by rw [HWZ.out]; rfl, by rw [HWZ.out]; exact HRZ.out, HKw.out⟩
def Cnt (X : Nat) (k s : Nat) (W : World) : Prop := W.cell? ⟨X, 0, none⟩ = some (.int .i64 s) ∧ W.frozen? ⟨X, 0, none⟩ = false ∧ s + k ≤ 4398046511104 ∧ k ≤ 1048576
theorem Cnt.later {X k s : Nat} {W W' : World} (h : Cnt X k s W) (hb : Below W.heap.size W W') : Cnt X k s W' :=
 have hl := blt h.1
 ⟨cLt hb h.1, (hb.frozen (p := ⟨X, 0, none⟩) hl).trans h.2.1, h.2.2⟩
theorem Cnt.put {X k s s' : Nat} {W : World} (h : Cnt X k s W) {k' : Nat} (hk : s' + k' ≤ 4398046511104 ∧ k' ≤ 1048576) : Cnt X k' s' (W.setCell ⟨X, 0, none⟩ (.int .i64 s')) :=
 ⟨World.cell?_setCell_same' _ _ _ (by rw [h.1]; rfl), by rw [World.frozen?_setCell]; exact h.2.1, hk⟩
theorem keepsQ_set {Q : Nat → Prop} {w w' : World} (h : KeepsQ Q w w') {X i : Nat} (hX : Q X) (u : Value) : KeepsQ Q w (w'.setCell ⟨X, i, none⟩ u) := by
 have hb := (Below.refl X w').setCell (p := ⟨X, i, none⟩) (Nat.le_refl _) u
 refine h.trans ⟨hb.os, hb.tape, hb.output, by simp, fun k hk hq => ?_⟩
 exact Below.heap_setCell _ _ _ _ (fun e => hq (by subst e; exact hX))
def stepD (s n : Nat) (_ : Nd) : Nat × Bool := (max s (n + 1), true)
def stepS (s _ : Nat) (_ : Nd) : Nat × Bool := (s + 1, true)
theorem walkL_D : ∀ (l : List Nd), (∀ t ∈ l, ∀ s n, walkF stepD s n t = (max s (n + t.depth), true)) → ∀ s n, n ≤ s → walkL stepD s n l = (max s (n + depths l), true)
 | [], _, s, n, h => by rw [walkL, depths]; simp [Nat.max_eq_left h]
 | t :: r, hl, s, n, h => by
  rw [walkL, hl t (List.mem_cons_self ..), depths]; simp only [if_true]; rw [walkL_D r (fun t ht => hl t (List.mem_cons_of_mem _ ht)) _ n lq29]
  congr 1
  omega
theorem walkF_D (T : Nd) : ∀ s n, walkF stepD s n T = (max s (n + T.depth), true) := by
 induction T using Nd.ind with
 | h T ih =>
  intro s n; rw [walkF_eq]
  refine (show _ = walkL stepD (max s (n + 1)) (n + 1) T.kids from rfl).trans ((walkL_D T.kids ih (max s (n + 1)) (n + 1) lq29).trans ?_)
  rw [T.depth_eq]
  congr 1
  omega
theorem walkL_S : ∀ (l : List Nd), (∀ t ∈ l, ∀ s n, walkF stepS s n t = (s + t.count, true)) → ∀ s n, walkL stepS s n l = (s + counts l, true)
 | [], _, s, n => by rw [walkL, counts]; simp
 | t :: r, hl, s, n => by
  rw [walkL, hl t (List.mem_cons_self ..), counts]; simp only [if_true]; rw [walkL_S r (fun t ht => hl t (List.mem_cons_of_mem _ ht)) _ n, Nat.add_assoc]
theorem walkF_S (T : Nd) : ∀ s n, walkF stepS s n T = (s + T.count, true) := by
 induction T using Nd.ind with
 | h T ih =>
  intro s n; rw [walkF_eq]
  refine (show _ = walkL stepS (s + 1) (n + 1) T.kids from rfl).trans ((walkL_S T.kids ih (s + 1) (n + 1)).trans ?_)
  rw [T.count_eq]
  congr 1
  omega
theorem count_weight : ∀ T : Nd, T.count ≤ T.weight := by
 have hl : ∀ l : List Nd, (∀ t ∈ l, t.count ≤ t.weight) → counts l ≤ weights l := by
  intro l
  induction l with
  | nil => intro _; rw [counts, weights]; exact Nat.le_refl _
  | cons t r ih =>
   intro h; rw [counts, weights]; have := h t (List.mem_cons_self ..); have := ih (fun t ht => h t (List.mem_cons_of_mem _ ht))
   omega
 intro T
 induction T using Nd.ind with
 | h T ih =>
  rw [T.count_eq, T.weight_eq]; have := hl T.kids ih
  omega
theorem depth_weight : ∀ T : Nd, T.depth ≤ T.weight := by
 have hl : ∀ l : List Nd, (∀ t ∈ l, t.depth ≤ t.weight) → depths l ≤ weights l := by
  intro l
  induction l with
  | nil => intro _; rw [depths, weights]; exact Nat.le_refl _
  | cons t r ih =>
   intro h; rw [depths, weights]; have := h t (List.mem_cons_self ..); have := ih (fun t ht => h t (List.mem_cons_of_mem _ ht))
   omega
 intro T
 induction T using Nd.ind with
 | h T ih =>
  rw [T.depth_eq, T.weight_eq]; have := hl T.kids ih
  omega
section
variable (X n k s : Nat) (T : Nd) (A : Option Addr) (c : Nat) (K : Option Addr) (d : Nat) (w : World) (hN : NodeAt w T A c K d) (hX : Cnt X (k + 1) s w) (hn : n ≤ 1048576)
include X n k s T A c K d w hN hX hn
theorem tDepth1_ok :
  Calls Tryz.prog 29 #[.int .i64 ((n : Nat) : Int), ndV T A c K d, .pointer (some ⟨X, 0, none⟩)] w fun e w' => e = .returned (.bool true) ∧ Cnt X k (stepD s n T).1 w' ∧ KeepsQ (fun b => b = X) w w' := by
 have _ := hN
 have _ := hn
 have hX2 := hX.later ((Below.refl w.heap.size w).alloc (Nat.le_refl _) (bx T.kind T A c K d))
 have hb1 := (Below.refl w.heap.size w).alloc (Nat.le_refl _) (bx T.kind T A c K d)
 obtain ⟨x0, x1, x2, x3⟩ := id hX
 have hxl := blt hX.1
 have hk1 : s ≤ 4398046511104 := by omega
 clear hN
 unfold ndV
 by_cases hsn : s ≤ n + 1
 ·have e1 : max s (n + 1) = n + 1 := by omega
  have e2 : max (s : Int) ((n : Int) + 1) = (n : Int) + 1 := by omega
  have hle : ((s : Int) ≤ (n : Int) + 1) := by omega
  have hp : Cnt X k (n + 1) ((w.setCell ⟨X, 0, none⟩ (.int .i64 ((n + 1 : Nat) : Int))).alloc (bx T.kind T A c K d)) := (hX.put lq29).later ((Below.refl _ _).alloc (Nat.le_refl _) (bx T.kind T A c K d)); rw [show ((n + 1 : Nat) : Int) = (n : Int) + 1 by omega] at hp
  show Calls _ _ _ _ fun e w' => _ ∧ Cnt X k (max s (n + 1)) w' ∧ _
  exact lv163
 ·have e1 : max s (n + 1) = s := by omega
  have e2 : max (s : Int) ((n : Int) + 1) = (s : Int) := by omega
  have hle : ¬ ((s : Int) ≤ (n : Int) + 1) := by omega
  have hp : Cnt X k s ((w.setCell ⟨X, 0, none⟩ (.int .i64 ((s : Nat) : Int))).alloc (bx T.kind T A c K d)) := (hX.put lq29).later ((Below.refl _ _).alloc (Nat.le_refl _) (bx T.kind T A c K d))
  show Calls _ _ _ _ fun e w' => _ ∧ Cnt X k (max s (n + 1)) w' ∧ _
  exact lv163
theorem tSize1_ok :
  Calls Tryz.prog 30 #[.int .i64 ((n : Nat) : Int), ndV T A c K d, .pointer (some ⟨X, 0, none⟩)] w fun e w' => e = .returned (.bool true) ∧ Cnt X k (stepS s n T).1 w' ∧ KeepsQ (fun b => b = X) w w' := by
 have _ := hN
 have _ := hn
 have hX2 := hX.later ((Below.refl w.heap.size w).alloc (Nat.le_refl _) (bx T.kind T A c K d))
 have hb1 := (Below.refl w.heap.size w).alloc (Nat.le_refl _) (bx T.kind T A c K d)
 obtain ⟨x0, x1, x2, x3⟩ := id hX
 have hxl := blt hX.1
 have hk1 : s ≤ 4398046511104 := by omega
 clear hN
 unfold ndV
 have hp : Cnt X k (s + 1) ((w.setCell ⟨X, 0, none⟩ (.int .i64 ((s + 1 : Nat) : Int))).alloc (bx T.kind T A c K d)) := (hX.put lq29).later ((Below.refl _ _).alloc (Nat.le_refl _) (bx T.kind T A c K d))
 rw [show ((s + 1 : Nat) : Int) = (s : Int) + 1 by omega] at hp
 show Calls _ _ _ _ fun e w' => _ ∧ Cnt X k (s + 1) w' ∧ _
 go_enter Tryz.func30, Tryz.ntmps30
 go_wp2
 go_ret
 exact ⟨rfl, hp, (keepsQ_set (Q := fun b => b = X) (X := X) (KeepsQ.below (Below.refl _ _)) rfl _).trans (KeepsQ.below ((Below.refl _ _).alloc (Nat.le_refl _) _))⟩
end
theorem cbDepth (w0 : World) : Cb (fun b => b = w0.heap.size) (Cnt w0.heap.size) stepD w0 29 #[.pointer (some ⟨w0.heap.size, 0, none⟩)] where
 q0 := fun b hb => by omega
 later := fun k s W W' h hb => h.later hb
 less := fun k s W h => ⟨h.1, h.2.1, by have := h.2.2; omega⟩
 q1 := fun k s W h b hb => by subst hb; exact blt h.1
 run := run_call _ _ Tryz.func29 lq27 lq27
 call := fun k s W n T A c K d _ hR hN _ hn => tDepth1_ok w0.heap.size n k s T A c K d W hN hR hn
theorem tDepth_ok (T : Nd) (A : Option Addr) (c : Nat) (K : Option Addr) (d : Nat) (w : World) (hN : NodeAt w T A c K d) (hW : T.weight ≤ 1048000) :
  Calls Tryz.prog 11 #[ndV T A c K d] w fun e w' => e = .returned (.int .i64 (T.depth : Int)) ∧ Below w.heap.size w w' := by
 obtain ⟨hb1, c0, c1, c2, c3, c4, c5⟩ := bxn w T A c K d
 have hs1 : (w.alloc (bx T.kind T A c K d)).heap.size = w.heap.size + 1 := by simp
 have hbX := (Below.refl (w.alloc (bx T.kind T A c K d)).heap.size (w.alloc (bx T.kind T A c K d))).alloc (Nat.le_refl _) (.cells #[.int .i64 0] 3)
 have hC : Cnt (w.alloc (bx T.kind T A c K d)).heap.size (0 + T.count) 0 ((w.alloc (bx T.kind T A c K d)).alloc (.cells #[.int .i64 0] 3)) := ⟨box_one _ _ _, Lib.frozen_of_heap (heap_alloc_new _ _) 0, by have := count_weight T; omega, by have := count_weight T; omega⟩
 have hI := walk_ok (cbDepth (w.alloc (bx T.kind T A c K d))) T A c K d 0 0 0 _ (hN.later hb1) hbX hC lq29 (by have := depth_weight T; omega)
 rw [walkF_D, hs1] at hI
 unfold ndV at hI
 have HI := Lh hI
 have hm := hN.parts
 obtain ⟨hm1, hm2, _, _, hk1, hk2, _, _, hts, _⟩ := hm
 unfold maxLen at hm2 hk2 hts
 rw [hs1] at hbX
 have hb2 := hb1.trans (hbX.mono lq29)
 unfold ndV
 clear hI hC hN hbX
 go_enter Tryz.func11, Tryz.ntmps11
 exact lv172
theorem cbSize (w0 : World) : Cb (fun b => b = w0.heap.size) (Cnt w0.heap.size) stepS w0 30 #[.pointer (some ⟨w0.heap.size, 0, none⟩)] where
 q0 := fun b hb => by omega
 later := fun k s W W' h hb => h.later hb
 less := fun k s W h => ⟨h.1, h.2.1, by have := h.2.2; omega⟩
 q1 := fun k s W h b hb => by subst hb; exact blt h.1
 run := run_call _ _ Tryz.func30 lq27 lq27
 call := fun k s W n T A c K d _ hR hN _ hn => tSize1_ok w0.heap.size n k s T A c K d W hN hR hn
theorem tSize_ok (T : Nd) (A : Option Addr) (c : Nat) (K : Option Addr) (d : Nat) (w : World) (hN : NodeAt w T A c K d) (hW : T.weight ≤ 1048000) :
  Calls Tryz.prog 12 #[ndV T A c K d] w fun e w' => e = .returned (.int .i64 (T.count : Int)) ∧ Below w.heap.size w w' := by
 obtain ⟨hb1, c0, c1, c2, c3, c4, c5⟩ := bxn w T A c K d
 have hs1 : (w.alloc (bx T.kind T A c K d)).heap.size = w.heap.size + 1 := by simp
 have hbX := (Below.refl (w.alloc (bx T.kind T A c K d)).heap.size (w.alloc (bx T.kind T A c K d))).alloc (Nat.le_refl _) (.cells #[.int .i64 0] 3)
 have hC : Cnt (w.alloc (bx T.kind T A c K d)).heap.size (0 + T.count) 0 ((w.alloc (bx T.kind T A c K d)).alloc (.cells #[.int .i64 0] 3)) := ⟨box_one _ _ _, Lib.frozen_of_heap (heap_alloc_new _ _) 0, by have := count_weight T; omega, by have := count_weight T; omega⟩
 have hI := walk_ok (cbSize (w.alloc (bx T.kind T A c K d))) T A c K d 0 0 0 _ (hN.later hb1) hbX hC lq29 (by have := depth_weight T; omega)
 rw [walkF_S, hs1] at hI
 unfold ndV at hI
 have HI := Lh hI
 have hm := hN.parts
 obtain ⟨hm1, hm2, _, _, hk1, hk2, _, _, hts, _⟩ := hm
 unfold maxLen at hm2 hk2 hts
 rw [hs1] at hbX
 have hb2 := hb1.trans (hbX.mono lq29)
 unfold ndV
 clear hI hC hN hbX
 go_enter Tryz.func12, Tryz.ntmps12
 exact lv172
def chk (T : Nd) : Int := if T.depth ≤ 300 ∧ T.kind = 1 ∧ T.right = true then 0 else 11
theorem tCheck_ok (T : Nd) (A : Option Addr) (c : Nat) (K : Option Addr) (d : Nat) (w : World) (hN : NodeAt w T A c K d) (hW : T.weight ≤ 1048000) (hT : Lib.Utf8Tabs 0 1 w) :
  Calls Tryz.prog 10 #[ndV T A c K d] w fun e w' => e = .returned (.int .i64 (chk T)) ∧ Below w.heap.size w w' := by
 have HDe := Lh (fun W (hb : Below w.heap.size w W) => by
  have := tDepth_ok T A c K d W (hN.later hb) hW; unfold ndV at this
  exact this)
 have HRi := Lh (fun W (hb : Below w.heap.size w W) => by
  have := right_ok T.depth T A c K d W (Nat.le_refl _) lq29 (hN.later hb) (Utf8Tabs_below hT hb); unfold ndV at this
  exact this)
 clear hT
 by_cases hd : T.depth ≤ 300
 ·have e1 : decide ((300 : Int) < (T.depth : Int)) = false := dFo; have e2 : decide (300 < T.depth) = false := dFo
  by_cases h1 : T.kind = 1
  ·have e3 : (T.kind == 1) = true := by simpa using h1
   have e4 : (T.kind != 1) = false := by simp [h1]
   cases hr : T.right with
   | true =>
    have HC := Lh (show chk T = 0 from if_pos ⟨hd, h1, hr⟩); exact lv98
   | false =>
    have HC := Lh (show chk T = 11 from if_neg (fun h => by simp [hr] at h)); exact lv98
  ·have e3 : (T.kind == 1) = false := by simpa using h1
   have e4 : (T.kind != 1) = true := by simp [h1]
   have HC := Lh (show chk T = 11 from if_neg (fun h => h1 h.2.1)); clear hd h1; exact lv105
 ·have e1 : decide ((300 : Int) < (T.depth : Int)) = true := dTo; have e2 : decide (300 < T.depth) = true := dTo; have HC := Lh (show chk T = 11 from if_neg (fun h => hd h.1)); clear hd; exact lv105
end
end Go.Proofs.YtjefhdlncikhmaaGreatDoor
