/- Joined by a program: Wlk, Dps, Chk, Wr8. -/
import Derived.Test.YtjndbcnmmnkilaaGreatDoorPF48
namespace Go.Proofs.YtjndbcnmmnkilaaGreatDoor
set_option linter.unusedVariables false
set_option linter.unusedSimpArgs false
set_option maxRecDepth 1000000
set_option maxHeartbeats 16000000
section
open Go.RowKit
open List (length_append length_cons length_nil length_singleton)
section
variable {σ : Type} (step : σ → Nat → Nd → σ × Bool)
mutual
def walkF (s : σ) (n : Nat) : Nd → σ × Bool
 | .mk k a t b m ks => if (step s n (.mk k a t b m ks)).2 then walkL (step s n (.mk k a t b m ks)).1 (n + 1) ks else ((step s n (.mk k a t b m ks)).1, false)
def walkL (s : σ) (n : Nat) : List Nd → σ × Bool
 | [] => (s, true)
 | t :: r => if (walkF s n t).2 then walkL (walkF s n t).1 n r else ((walkF s n t).1, false)
end
theorem walkF_eq (s : σ) (n : Nat) (T : Nd) : walkF step s n T = if (step s n T).2 then walkL step (step s n T).1 (n + 1) T.kids else ((step s n T).1, false) := by
 cases T; rw [walkF]; rfl
theorem walkL_drop {l : List Nd} {k : Nat} {t : Nd} (h : l[k]? = some t) (s : σ) (n : Nat) : walkL step s n (l.drop k) = if (walkF step s n t).2 then walkL step (walkF step s n t).1 n (l.drop (k + 1)) else ((walkF step s n t).1, false) := by
 obtain ⟨h1, rfl⟩ := List.getElem?_eq_some_iff.1 h
 rw [List.drop_eq_getElem_cons h1, walkL]
end
theorem counts_drop {l : List Nd} {k : Nat} {t : Nd} (h : l[k]? = some t) : counts (l.drop k) = t.count + counts (l.drop (k + 1)) := by
 obtain ⟨h1, rfl⟩ := List.getElem?_eq_some_iff.1 h
 rw [List.drop_eq_getElem_cons h1, counts]
structure Cb {σ : Type} (Q : Nat → Prop) (Rep : Nat → σ → World → Prop) (step : σ → Nat → Nd → σ × Bool) (w0 : World) (f : FuncId) (caps : Array Value) : Prop where
 q0 : ∀ b, Q b → w0.heap.size ≤ b
 later : ∀ k s W W', Rep k s W → Below W.heap.size W W' → Rep k s W'
 less : ∀ k s W, Rep (k + 1) s W → Rep k s W
 q1 : ∀ k s W, Rep k s W → ∀ b, Q b → b < W.heap.size
 run : ∀ args W, (callFunc f args).run Tryz.prog W = .ok (.enter f args) W
 call : ∀ k s W n T A c K d, Below w0.heap.size w0 W → Rep (k + 1) s W → NodeAt W T A c K d → T.weight ≤ 1048576 → n ≤ 1048576 →
  Calls Tryz.prog f (#[.int .i64 ((n : Nat) : Int), ndV T A c K d] ++ caps) W fun e w' => e = .returned (.bool (step s n T).2) ∧ Rep k (step s n T).1 w' ∧ KeepsQ Q W w'
theorem Cb.lessN {σ : Type} {Q : Nat → Prop} {Rep : Nat → σ → World → Prop} {step : σ → Nat → Nd → σ × Bool} {w0 : World} {f : FuncId} {caps : Array Value} (h : Cb Q Rep step w0 f caps) (j k : Nat) (s : σ) (W : World) (hR : Rep (k + j) s W) : Rep k s W := by
 induction j with
 | zero => exact hR
 | succ j ih => exact ih (h.less _ _ _ hR)
theorem walk_ok {σ : Type} {Q : Nat → Prop} {Rep : Nat → σ → World → Prop} {step : σ → Nat → Nd → σ × Bool} {w0 : World} {f : FuncId} {caps : Array Value} (hCb : Cb Q Rep step w0 f caps) (T : Nd) : ∀ (A : Option Addr) (c : Nat) (K : Option Addr) (d : Nat) (n k : Nat) (s : σ) (w : World), NodeAt w0 T A c K d → Below w0.heap.size w0 w → Rep (k + T.count) s w → T.weight ≤ 1048576 → n + T.depth ≤ 1048576 →
  Calls Tryz.prog 76 #[.int .i64 ((n : Nat) : Int), ndV T A c K d, .func (.func f) #[] caps] w fun e w' => e = .returned (.bool (walkF step s n T).2) ∧ Rep k (walkF step s n T).1 w' ∧ KeepsQ Q w w' := by
 induction T using Nd.ind with
 | h T ih =>
  intro A c K d n k s w hN hb0 hR hW hD; have hrn := hCb.run; have hTd := T.depth_eq; have hNw := hN.later hb0; have hbx := (Below.refl w.heap.size w).alloc (Nat.le_refl _) (.cells #[.int .i64 T.kind, .int .i64 T.pos, .string T.text, .bool T.neg, .slice A T.mag.length c, .slice K T.kids.length d] 29); have hq1 := hCb.q1 _ _ _ hR; rw [T.count_eq, show k + (counts T.kids + 1) = (k + counts T.kids) + 1 by omega] at hR
  have hI := hCb.call (k + counts T.kids) s (w.alloc (.cells #[.int .i64 T.kind, .int .i64 T.pos, .string T.text, .bool T.neg, .slice A T.mag.length c, .slice K T.kids.length d] 29)) n T A c K d (hb0.trans (hbx.mono hb0.size)) (hCb.later _ _ _ _ hR hbx) (hNw.later hbx) hW lq17; unfold ndV at hI; have HI := Lh hI; have hb1 := hbx; obtain ⟨c0, c1, c2, c3, c4, c5⟩ := (cellsN_new w T A c K d 29).box; have hkp := hNw.parts; obtain ⟨hm1, hm2, _, _, hk1, hk2, _, _, hts, _⟩ := hkp; unfold maxLen at hm2 hk2 hts; have HK := Lh (fun (i : Nat) (t : Nd) (hi : T.kids[i]? = some t) => hNw.kid hi)
  have HK0 := Lh (fun (i : Nat) (t : Nd) (hi : T.kids[i]? = some t) => hN.kid hi); have HQ := Lh hq1; have HE := Lh (walkF_eq step s n T); have HB0 := Lh hb0; have hns : n ≤ 1048576 := by omega
  have hwl : w.heap.size < (w.alloc (.cells #[.int .i64 T.kind, .int .i64 T.pos, .string T.text, .bool T.neg, .slice A T.mag.length c, .slice K T.kids.length d] 29)).heap.size := by simp
  have hkw : T.kids.length ≤ 1048576 := by have := weights_len T.kids; have := T.weight_eq; omega
  clear hI hNw hN hbx hq1 hR hb0; unfold ndV
  generalize step s n T = r at *
  obtain ⟨s1, bb⟩ := r
  cases bb with
  | false =>
   have HE2 := Lh (show walkF step s n T = (s1, false) from HE.out); clear HE; go_enter Tryz.func76, Tryz.ntmps76; go_wp2_with (with_reducible refine HI.out.mono ?_; rintro e w3 ⟨rfl, hr3, hk3⟩); go_ret; exact ⟨by rw [HE2.out]; rfl, by rw [HE2.out]; exact hCb.lessN _ _ _ _ hr3, (KeepsQ.below hb1).trans hk3⟩
  | true =>
   have HE2 := Lh (show walkF step s n T = walkL step s1 (n + 1) T.kids from HE.out); clear HE; go_enter Tryz.func76, Tryz.ntmps76; go_wp2_with (with_reducible refine HI.out.mono ?_; rintro e w3 ⟨rfl, hr3, hk3⟩; have p5 := cellQ hk3 (fun x => absurd (HQ.out _ x) lq17) c5; have p4 := cellQ hk3 (fun x => absurd (HQ.out _ x) lq17) c4; have hlw3 := blt p5); have HK3 := Lh ((KeepsQ.below hb1).trans hk3); clear hk3
   go_loopw [17] (fun iv wr => ∃ (i : Nat) (s' : σ), iv = .int .i64 i ∧ i ≤ T.kids.length ∧ Hid (walkL step s1 (n + 1) T.kids = walkL step s' (n + 1) (T.kids.drop i)) ∧ Hid (Rep (k + counts (T.kids.drop i)) s' wr) ∧ Hid (KeepsQ Q w3 wr)) (fun iv _ => T.kids.length - (intOf iv).toNat)
   case atStart => exact ⟨0, s1, rfl, Nat.zero_le _, Lh lq18, Lh (by simpa using hr3), Lh (KeepsQ.below (Below.refl _ _))⟩
   case round =>
    obtain ⟨i, s', rfl, hi, hWl, hRr, hKr⟩ := hrel; have d5 := cellQ hKr.out (fun x => absurd (HQ.out _ x) lq17) p5; have hlw := blt d5; have HKw := Lh (HK3.out.trans hKr.out)
    by_cases hil : i < T.kids.length
    ·have o1 : decide ((i : Int) < (T.kids.length : Int)) = true := dTo; have o2 : decide (i < T.kids.length) = true := dTr hil; obtain ⟨t, ht⟩ : ∃ t, T.kids[i]? = some t := ⟨_, List.getElem?_eq_getElem hil⟩; obtain ⟨b, off, A', c', K', d', hKe, hC, hNt⟩ := HK.out i t ht; obtain ⟨b', off', A2, c2', K2, d2, hKe2, hC2, hNt0⟩ := HK0.out i t ht; subst hKe; have hbl : Below w0.heap.size w0 wr := HB0.out.trans ((HKw.out.low HB0.out.size hCb.q0)); injection hKe2 with e1
     injection e1 with e1 e2
     subst e1 e2; have hCw := hC2.later hbl; obtain ⟨n0, n1, n2, n3, n4, n5⟩ := hCw; have htm := mog ht; have htd := T.depth_kid htm; have htw := T.weight_kid htm; have hbt := (Below.refl wr.heap.size wr).alloc (Nat.le_refl _) (.cells #[.int .i64 t.kind, .int .i64 t.pos, .string t.text, .bool t.neg, .slice A2 t.mag.length c2', .slice K2 t.kids.length d2] 29); have hR2 := hRr.out; rw [counts_drop ht, show k + (t.count + counts (T.kids.drop (i + 1))) = (k + counts (T.kids.drop (i + 1))) + t.count by omega] at hR2
     have hI := ih t htm A2 c2' K2 d2 (n + 1) (k + counts (T.kids.drop (i + 1))) s' (wr.alloc (.cells #[.int .i64 t.kind, .int .i64 t.pos, .string t.text, .bool t.neg, .slice A2 t.mag.length c2', .slice K2 t.kids.length d2] 29)) hNt0 (hbl.trans (hbt.mono hbl.size)) (hCb.later _ _ _ _ hR2 hbt) lq17 lq17; unfold ndV at hI; rw [show ((n + 1 : Nat) : Int) = (n : Int) + 1 by omega] at hI; have HI2 := Lh hI; have HWD := Lh (walkL_drop step ht s' (n + 1)); clear hI hR2 hC hNt hC2 hNt0 ht htm hbl
     generalize walkF step s' (n + 1) t = r at *
     obtain ⟨s2, bb⟩ := r
     cases bb with
     | true =>
      go_wp2_with (go_at_call 76; refine HI2.out.mono ?_; rintro e w5 ⟨rfl, hr5, hk5⟩)
      go_roundw
      case rel => exact ⟨i + 1, s2, by go_num, by omega, Lh (hWl.out.trans HWD.out), Lh hr5, Lh (hKr.out.trans ((KeepsQ.below hbt).trans hk5))⟩
      case measure => simp [intOf]; omega
     | false =>
      go_wp2_with (go_at_call 76; refine HI2.out.mono ?_; rintro e w5 ⟨rfl, hr5, hk5⟩); go_ret; have hEE : walkF step s n T = (s2, false) := HE2.out.trans (hWl.out.trans HWD.out); exact ⟨by rw [hEE]; rfl, by rw [hEE]; exact hCb.lessN _ _ _ _ hr5, HKw.out.trans ((KeepsQ.below hbt).trans hk5)⟩
    ·have o1 : decide ((i : Int) < (T.kids.length : Int)) = false := dFo; have o2 : decide (i < T.kids.length) = false := dFa hil; have hW2 := hWl.out; have hRz := hRr.out; rw [List.drop_eq_nil_of_le lq17] at hW2 hRz; rw [walkL] at hW2; have HWZ := Lh (show walkF step s n T = (s', true) from HE2.out.trans hW2); have HRZ := Lh (show Rep k s' wr from hRz); clear hW2 hRz; go_wp2_with fail; go_ret; exact ⟨by rw [HWZ.out]; rfl, by rw [HWZ.out]; exact HRZ.out, HKw.out⟩
def Cnt (X : Nat) (k s : Nat) (W : World) : Prop := W.cell? ⟨X, 0, none⟩ = some (.int .i64 s) ∧ W.frozen? ⟨X, 0, none⟩ = false ∧ s + k ≤ 4398046511104 ∧ k ≤ 1048576
theorem Cnt.later {X k s : Nat} {W W' : World} (h : Cnt X k s W) (hb : Below W.heap.size W W') : Cnt X k s W' :=
 have hl := blt h.1
 ⟨cLt hb h.1, (hb.frozen (p := ⟨X, 0, none⟩) hl).trans h.2.1, h.2.2⟩
theorem Cnt.put {X k s s' : Nat} {W : World} (h : Cnt X k s W) {k' : Nat} (hk : s' + k' ≤ 4398046511104 ∧ k' ≤ 1048576) : Cnt X k' s' (W.setCell ⟨X, 0, none⟩ (.int .i64 s')) :=
 ⟨World.cell?_setCell_same' _ _ _ (by rw [h.1]; rfl), by rw [World.frozen?_setCell]; exact h.2.1, hk⟩
theorem keepsQ_set {Q : Nat → Prop} {w w' : World} (h : KeepsQ Q w w') {X i : Nat} (hX : Q X) (u : Value) : KeepsQ Q w (w'.setCell ⟨X, i, none⟩ u) := by
 have hb := (Below.refl X w').setCell (p := ⟨X, i, none⟩) (Nat.le_refl _) u
 refine h.trans ⟨hb.os, hb.tape, hb.output, by simp, fun k hk hq => ?_⟩
 exact Below.heap_setCell _ _ _ _ (fun e => hq (by subst e; exact hX))
def stepD (s n : Nat) (_ : Nd) : Nat × Bool := (max s (n + 1), true)
theorem walkL_D : ∀ (l : List Nd), (∀ t ∈ l, ∀ s n, walkF stepD s n t = (max s (n + t.depth), true)) → ∀ s n, n ≤ s → walkL stepD s n l = (max s (n + depths l), true)
 | [], _, s, n, h => by rw [walkL, depths]; simp [Nat.max_eq_left h]
 | t :: r, hl, s, n, h => by
  rw [walkL, hl t (List.mem_cons_self ..), depths]; simp only [if_true]; rw [walkL_D r (fun t ht => hl t (List.mem_cons_of_mem _ ht)) _ n lq17]
  congr 1
  omega
theorem walkF_D (T : Nd) : ∀ s n, walkF stepD s n T = (max s (n + T.depth), true) := by
 induction T using Nd.ind with
 | h T ih =>
  intro s n; rw [walkF_eq]
  refine (show _ = walkL stepD (max s (n + 1)) (n + 1) T.kids from rfl).trans ((walkL_D T.kids ih (max s (n + 1)) (n + 1) lq17).trans ?_)
  rw [T.depth_eq]
  congr 1
  omega
theorem count_weight : ∀ T : Nd, T.count ≤ T.weight := by
 have hl : ∀ l : List Nd, (∀ t ∈ l, t.count ≤ t.weight) → counts l ≤ weights l := by
  intro l
  induction l with
  | nil => intro _; rw [counts, weights]; exact Nat.le_refl _
  | cons t r ih =>
   intro h; rw [counts, weights]; have := h t (List.mem_cons_self ..); have := ih (fun t ht => h t (List.mem_cons_of_mem _ ht))
   omega
 intro T
 induction T using Nd.ind with
 | h T ih =>
  rw [T.count_eq, T.weight_eq]; have := hl T.kids ih
  omega
theorem depth_weight : ∀ T : Nd, T.depth ≤ T.weight := by
 have hl : ∀ l : List Nd, (∀ t ∈ l, t.depth ≤ t.weight) → depths l ≤ weights l := by
  intro l
  induction l with
  | nil => intro _; rw [depths, weights]; exact Nat.le_refl _
  | cons t r ih =>
   intro h; rw [depths, weights]; have := h t (List.mem_cons_self ..); have := ih (fun t ht => h t (List.mem_cons_of_mem _ ht))
   omega
 intro T
 induction T using Nd.ind with
 | h T ih =>
  rw [T.depth_eq, T.weight_eq]; have := hl T.kids ih
  omega
theorem tDepth1_ok (X n k s : Nat) (T : Nd) (A : Option Addr) (c : Nat) (K : Option Addr) (d : Nat) (w : World) (hN : NodeAt w T A c K d) (hX : Cnt X (k + 1) s w) (hn : n ≤ 1048576) :
  Calls Tryz.prog 77 #[.int .i64 ((n : Nat) : Int), ndV T A c K d, .pointer (some ⟨X, 0, none⟩)] w fun e w' => e = .returned (.bool true) ∧ Cnt X k (stepD s n T).1 w' ∧ KeepsQ (fun b => b = X) w w' := by
 have hX2 := hX.later ((Below.refl w.heap.size w).alloc (Nat.le_refl _) (.cells #[.int .i64 T.kind, .int .i64 T.pos, .string T.text, .bool T.neg, .slice A T.mag.length c, .slice K T.kids.length d] 29))
 have hb1 := (Below.refl w.heap.size w).alloc (Nat.le_refl _) (.cells #[.int .i64 T.kind, .int .i64 T.pos, .string T.text, .bool T.neg, .slice A T.mag.length c, .slice K T.kids.length d] 29)
 obtain ⟨x0, x1, x2, x3⟩ := id hX
 have hxl := blt hX.1
 have hk1 : s ≤ 4398046511104 := by omega
 clear hN
 unfold ndV
 by_cases hsn : s ≤ n + 1
 ·have e1 : max s (n + 1) = n + 1 := by omega
  have e2 : max (s : Int) ((n : Int) + 1) = (n : Int) + 1 := by omega
  have hle : ((s : Int) ≤ (n : Int) + 1) := by omega
  have hp : Cnt X k (n + 1) ((w.setCell ⟨X, 0, none⟩ (.int .i64 ((n + 1 : Nat) : Int))).alloc (.cells #[.int .i64 T.kind, .int .i64 T.pos, .string T.text, .bool T.neg, .slice A T.mag.length c, .slice K T.kids.length d] 29)) := (hX.put lq17).later ((Below.refl _ _).alloc (Nat.le_refl _) (.cells #[.int .i64 T.kind, .int .i64 T.pos, .string T.text, .bool T.neg, .slice A T.mag.length c, .slice K T.kids.length d] 29)); rw [show ((n + 1 : Nat) : Int) = (n : Int) + 1 by omega] at hp
  show Calls _ _ _ _ fun e w' => _ ∧ Cnt X k (max s (n + 1)) w' ∧ _
  exact lv36
 ·have e1 : max s (n + 1) = s := by omega
  have e2 : max (s : Int) ((n : Int) + 1) = (s : Int) := by omega
  have hle : ¬ ((s : Int) ≤ (n : Int) + 1) := by omega
  have hp : Cnt X k s ((w.setCell ⟨X, 0, none⟩ (.int .i64 ((s : Nat) : Int))).alloc (.cells #[.int .i64 T.kind, .int .i64 T.pos, .string T.text, .bool T.neg, .slice A T.mag.length c, .slice K T.kids.length d] 29)) := (hX.put lq17).later ((Below.refl _ _).alloc (Nat.le_refl _) (.cells #[.int .i64 T.kind, .int .i64 T.pos, .string T.text, .bool T.neg, .slice A T.mag.length c, .slice K T.kids.length d] 29))
  show Calls _ _ _ _ fun e w' => _ ∧ Cnt X k (max s (n + 1)) w' ∧ _
  exact lv36
theorem cbDepth (w0 : World) : Cb (fun b => b = w0.heap.size) (Cnt w0.heap.size) stepD w0 77 #[.pointer (some ⟨w0.heap.size, 0, none⟩)] where
 q0 := fun b hb => by omega
 later := fun k s W W' h hb => h.later hb
 less := fun k s W h => ⟨h.1, h.2.1, by have := h.2.2; omega⟩
 q1 := fun k s W h b hb => by subst hb; exact blt h.1
 run := run_call _ _ Tryz.func77 lq15 lq15
 call := fun k s W n T A c K d _ hR hN _ hn => tDepth1_ok w0.heap.size n k s T A c K d W hN hR hn
theorem tDepth_ok (T : Nd) (A : Option Addr) (c : Nat) (K : Option Addr) (d : Nat) (w : World) (hN : NodeAt w T A c K d) (hW : T.weight ≤ 1048000) :
  Calls Tryz.prog 41 #[ndV T A c K d] w fun e w' => e = .returned (.int .i64 (T.depth : Int)) ∧ Below w.heap.size w w' := by
 have hb1 := (Below.refl w.heap.size w).alloc (Nat.le_refl _) (.cells #[.int .i64 T.kind, .int .i64 T.pos, .string T.text, .bool T.neg, .slice A T.mag.length c, .slice K T.kids.length d] 29)
 obtain ⟨c0, c1, c2, c3, c4, c5⟩ := (cellsN_new w T A c K d 29).box
 have hs1 : (w.alloc (.cells #[.int .i64 T.kind, .int .i64 T.pos, .string T.text, .bool T.neg, .slice A T.mag.length c, .slice K T.kids.length d] 29)).heap.size = w.heap.size + 1 := by simp
 have hbX := (Below.refl (w.alloc (.cells #[.int .i64 T.kind, .int .i64 T.pos, .string T.text, .bool T.neg, .slice A T.mag.length c, .slice K T.kids.length d] 29)).heap.size (w.alloc (.cells #[.int .i64 T.kind, .int .i64 T.pos, .string T.text, .bool T.neg, .slice A T.mag.length c, .slice K T.kids.length d] 29))).alloc (Nat.le_refl _) (.cells #[.int .i64 0] 3)
 have hC : Cnt (w.alloc (.cells #[.int .i64 T.kind, .int .i64 T.pos, .string T.text, .bool T.neg, .slice A T.mag.length c, .slice K T.kids.length d] 29)).heap.size (0 + T.count) 0 ((w.alloc (.cells #[.int .i64 T.kind, .int .i64 T.pos, .string T.text, .bool T.neg, .slice A T.mag.length c, .slice K T.kids.length d] 29)).alloc (.cells #[.int .i64 0] 3)) := ⟨box_one _ _ _, Lib.frozen_of_heap (heap_alloc_new _ _) 0, by have := count_weight T; omega, by have := count_weight T; omega⟩
 have hI := walk_ok (cbDepth (w.alloc (.cells #[.int .i64 T.kind, .int .i64 T.pos, .string T.text, .bool T.neg, .slice A T.mag.length c, .slice K T.kids.length d] 29))) T A c K d 0 0 0 _ (hN.later hb1) hbX hC lq17 (by have := depth_weight T; omega)
 rw [walkF_D, hs1] at hI
 unfold ndV at hI
 have HI := Lh hI
 have hm := hN.parts
 obtain ⟨hm1, hm2, _, _, hk1, hk2, _, _, hts, _⟩ := hm
 unfold maxLen at hm2 hk2 hts
 rw [hs1] at hbX
 have hb2 := hb1.trans (hbX.mono lq17)
 unfold ndV
 clear hI hC hN hbX
 go_enter Tryz.func41, Tryz.ntmps41
 go_wp2_with (go_at_call 76; refine HI.out.mono ?_; rintro e w3 ⟨rfl, ⟨x0, x1, _, _⟩, hk3⟩)
 go_ret
 exact ⟨by simp, hb2.trans (hk3.low (by simp <;> omega) (fun b hb => by omega))⟩
def chk (T : Nd) : Int := if T.depth ≤ 300 ∧ T.kind = 1 ∧ T.right = true then 0 else 11
theorem tCheck_ok (T : Nd) (hsm : T.smk = true) (hdq : T.depth ≤ 1000000) (A : Option Addr) (c : Nat) (K : Option Addr) (d : Nat) (w : World) (hN : NodeAt w T A c K d) (hW : T.weight ≤ 1048000) (hT : Lib.Utf8Tabs 0 1 w) :
  Calls Tryz.prog 22 #[ndV T A c K d] w fun e w' => e = .returned (.int .i64 (chk T)) ∧ Below w.heap.size w w' := by
 have HDe := Lh (fun W (hb : Below w.heap.size w W) => by
  have := tDepth_ok T A c K d W (hN.later hb) hW; unfold ndV at this
  exact this)
 have HRi := Lh (fun W (hb : Below w.heap.size w W) => by
  have := right_okS T.depth hdq T A c K d W (Nat.le_of_eq (Nd.dep_of hsm)) lq17 (hN.later hb) (Utf8Tabs_below hT hb); unfold ndV at this
  exact this)
 clear hT
 by_cases hd : T.depth ≤ 300
 ·have e1 : decide ((300 : Int) < (T.depth : Int)) = false := dFo; have e2 : decide (300 < T.depth) = false := dFo
  by_cases h1 : T.kind = 1
  ·have e3 : (T.kind == 1) = true := by simpa using h1
   have e4 : (T.kind != 1) = false := by simp [h1]
   cases hr : T.right with
   | true =>
    have HC := Lh (show chk T = 0 from if_pos ⟨hd, h1, hr⟩); exact lv13
   | false =>
    have HC := Lh (show chk T = 11 from if_neg (fun h => by simp [hr] at h)); exact lv13
  ·have e3 : (T.kind == 1) = false := by simpa using h1
   have e4 : (T.kind != 1) = true := by simp [h1]
   have HC := Lh (show chk T = 11 from if_neg (fun h => h1 h.2.1)); clear hd h1; exact lv15
 ·have e1 : decide ((300 : Int) < (T.depth : Int)) = true := dTo; have e2 : decide (300 < T.depth) = true := dTo; have HC := Lh (show chk T = 11 from if_neg (fun h => hd h.1)); clear hd; exact lv15
theorem wString_ok (B X dep : Nat) (l : List UInt8) (w : World) (h : WrT B X dep l w) (hBw : B ≤ w.heap.size) :
  Calls Tryz.prog 44 #[.pointer (some ⟨X, 0, none⟩)] w fun e w' => e = .returned (.string (ba l)) ∧ Below B w w' := by
 obtain ⟨p, hp, hB, v, hbk, hown, hne⟩ := h
 have hlt : X < w.heap.size := by
  rcases Nat.lt_or_ge X w.heap.size with h' | h'
  ·exact h'
  ·simp [Array.getElem?_eq_none h'] at hbk
 rw [Lib.byteCells_length] at hown
 have hsz : Tryz.prog.cellsOf 5 = 1 := by kernel_rfl
 have hb0 : Below B w w.drew := (Below.refl B w).drew
 cases l with
 | nil =>
  have hUS := fun (W : World) (q : Option Addr) => Lib.run_unsafeString_none (P := Tryz.prog) (w := W) 106 3 9 q
  rcases hown.2 with ⟨rfl, _⟩ | ⟨g, cap, cur, fz, rfl, hbg, hg, _, _, _, _, _⟩
  ·have c1 : w.drew.cell? ⟨X, 1, none⟩ = some (.slice none 0 0) := by
    have : w.drew.heap[X]? = some (.cells #[p, .slice none 0 0, .int .i64 ((dep : Nat) : Int)] 74 (0, 0)) := hbk; rw [Lib.cell_of_heap this]; rfl
   have hSD : (Builtin.unsafeSliceData_ #[22] 106 #[.slice none 0 0]).run Tryz.prog w.drew = .ok (.pointer none) w.drew := rfl; go_enter Tryz.func44, Tryz.ntmps44; go_wp2
   go_region_with (fail)
   all_goals (go_wp2; go_ret; exact ⟨rfl, hb0⟩)
  ·by_cases hc0 : cap = 0
   ·subst hc0; have c1 : w.drew.cell? ⟨X, 1, none⟩ = some (.slice (some ⟨g, 0, none⟩) 0 0) := by
     have : w.drew.heap[X]? = some (.cells #[p, .slice (some ⟨g, 0, none⟩) 0 0, .int .i64 ((dep : Nat) : Int)] 74 (0, 0)) := hbk; rw [Lib.cell_of_heap this]; rfl
    have hSD : (Builtin.unsafeSliceData_ #[22] 106 #[.slice (some ⟨g, 0, none⟩) 0 0]).run Tryz.prog w.drew = .ok (.pointer (some ⟨w.drew.heap.size, 0, none⟩)) (w.drew.alloc (.view ⟨g, 0, none⟩ 5)) :=
     Lib.run_unsafeSliceData_zero w.drew _ _ 5 Tryz.underlying106 ⟨g, 0, none⟩ 0 (5, cur.size) (by have hg' : w.drew.heap[g]? = some (.cells cur 5 fz) := hg; simp [World.shape?, hg'])
    have c2 : (w.drew.alloc (.view ⟨g, 0, none⟩ 5)).cell? ⟨X, 1, none⟩ = some (.slice (some ⟨g, 0, none⟩) 0 0) := by
     have : (w.drew.alloc (.view ⟨g, 0, none⟩ 5)).heap[X]? = _ := (Lib.alloc_old w.drew _ X hlt).trans hbk; rw [Lib.cell_of_heap this]; rfl
    have c3 : (w.alloc (.view ⟨g, 0, none⟩ 5)).drew.cell? ⟨X, 1, none⟩ = some (.slice (some ⟨g, 0, none⟩) 0 0) := c2; have c0 : w.cell? ⟨X, 1, none⟩ = some (.slice (some ⟨g, 0, none⟩) 0 0) := c1; go_enter Tryz.func44, Tryz.ntmps44; go_wp2
    go_region_with (fail)
    all_goals (go_wp2; go_ret; exact ⟨rfl, hb0.alloc hBw _⟩)
   ·have c1 : w.drew.cell? ⟨X, 1, none⟩ = some (.slice (some ⟨g, 0, none⟩) 0 cap) := by
     have : w.drew.heap[X]? = some (.cells #[p, .slice (some ⟨g, 0, none⟩) 0 cap, .int .i64 ((dep : Nat) : Int)] 74 (0, 0)) := hbk; rw [Lib.cell_of_heap this]; rfl
    have hSD : (Builtin.unsafeSliceData_ #[22] 106 #[.slice (some ⟨g, 0, none⟩) 0 cap]).run Tryz.prog w.drew = .ok (.pointer (some ⟨g, 0, none⟩)) w.drew :=
     Lib.run_unsafeSliceData_row _ _ _ _ _ _ hc0
    clear hc0; go_enter Tryz.func44, Tryz.ntmps44; go_wp2
    go_region_with (fail)
    all_goals (go_wp2; go_ret; exact ⟨rfl, hb0⟩)
 | cons x r =>
  generalize hxr : x :: r = l at *
  have h0 : l ≠ [] := by rw [← hxr]; simp
  have hl0 : l.length ≠ 0 := by simpa using h0
  obtain ⟨g, cap, cur, fz, rfl, hbg, hg, hfz, hnc, hcm, hcs, htake⟩ : ∃ g cap cur fz, v = .slice (some ⟨g, 0, none⟩) l.length cap ∧ B ≤ g ∧ w.heap[g]? = some (.cells cur 5 fz) ∧ fz.2 ≤ l.length * 1 ∧ l.length ≤ cap ∧ cap ≤ maxLen ∧ cur.size = cap * 1 ∧ cur.toList.take (l.length * 1) = Lib.byteCells l := by
   rcases hown.2 with ⟨_, hz⟩ | ⟨g, cap, cur, fz, hv, r⟩
   ·exact absurd hz hl0
   ·exact ⟨g, cap, cur, fz, hv, r⟩
  have c1 : w.drew.cell? ⟨X, 1, none⟩ = some (.slice (some ⟨g, 0, none⟩) l.length cap) := by
   have : w.drew.heap[X]? = some (.cells #[p, .slice (some ⟨g, 0, none⟩) l.length cap, .int .i64 ((dep : Nat) : Int)] 74 (0, 0)) := hbk; rw [Lib.cell_of_heap this]; rfl
  have hSD : (Builtin.unsafeSliceData_ #[22] 106 #[.slice (some ⟨g, 0, none⟩) l.length cap]).run Tryz.prog w.drew = .ok (.pointer (some ⟨g, 0, none⟩)) w.drew :=
   Lib.run_unsafeSliceData_row _ _ _ _ _ _ lq17
  have hUS : (Builtin.unsafeString_ #[106, 3] 9 #[.pointer (some ⟨g, 0, none⟩), .int .i64 l.length]).run Tryz.prog w.drew = .ok (.string ⟨l.toArray⟩) (w.drew.freeze ⟨g, 0, none⟩ l.length) := by
   refine Lib.run_unsafeString_row w.drew 106 3 9 5 Tryz.underlying106 hsz g cur.size (by have hg' : w.drew.heap[g]? = some (.cells cur 5 fz) := hg; simp [World.shape?, hg']) l h0 lq17 (by unfold maxLen at hcm; omega) ?_
   intro j x hx; exact hown.cells (g := g) rfl j (.int .u8 x.toNat) (by simp [Lib.byteCells, hx])
  have hFZ := Lib.below_freeze hb0 (p := ⟨g, 0, none⟩) hbg l.length; clear hxr hown; go_enter Tryz.func44, Tryz.ntmps44; go_wp2
  go_region_with (fail)
  all_goals (go_wp2; go_ret; exact ⟨rfl, hFZ⟩)
theorem nodeAt_okN {w : World} : ∀ (T : Nd) {A : Option Addr} {c : Nat} {K : Option Addr} {d : Nat}, NodeAt w T A c K d → okN T := by
 have hl : ∀ (l : List Nd), (∀ t ∈ l, okN t) → okNs l := by
  intro l
  induction l with
  | nil => intro _; trivial
  | cons a r ih => intro h; exact ⟨h a (List.mem_cons_self ..), ih (fun t ht => h t (List.mem_cons_of_mem _ ht))⟩
 intro T
 induction T using Nd.ind with
 | h T ih =>
  intro A c K d h; rw [okN_eq]
  refine ⟨h.parts.2.2.2.1, hl _ (fun t ht => ?_)⟩
  obtain ⟨i, hi⟩ := List.mem_iff_getElem?.1 ht; obtain ⟨_, _, _, _, _, _, _, _, hn⟩ := h.kid hi; exact ih t ht hn
def prt (T : Nd) : ByteArray := if chk T = 0 then ba (printL T) else ba []
theorem chk_zero {T : Nd} (h : chk T = 0) : T.depth ≤ 300 ∧ T.kind = 1 ∧ T.right = true := by
 unfold chk at h
 split at h
 ·assumption
 ·cases h
theorem mod_kid {T : Nd} (h : chk T = 0) : ∃ t0, T.kids = [t0] ∧ (Sh.of 2).ev Nd.right t0 = true := by
 obtain ⟨_, hk, hr⟩ := chk_zero h
 rw [right_at hk (tx := .non) (fm := .row [.of 2]) rfl lq16] at hr
 have hro : rowB T.kids [(Sh.of 2).ev Nd.right] = true := (Bool.and_eq_true _ _ ▸ hr).2
 obtain ⟨t0, hks⟩ := kids_1 (row_len hro)
 rw [hks] at hro
 simp only [rowB, Bool.and_true] at hro
 exact ⟨t0, hks, hro⟩
theorem tPrint_ok (T : Nd) (hsm : T.smk = true) (hdq : T.depth ≤ 1000000) (A : Option Addr) (c : Nat) (K : Option Addr) (d : Nat) (w : World) (hN : NodeAt w T A c K d) (hW : T.weight ≤ 1000000) (hT : Lib.Utf8Tabs 0 1 w) :
  Calls Tryz.prog 23 #[ndV T A c K d] w fun e w' => e = .returned (.string (prt T)) ∧ Below w.heap.size w w' := by
 have HCh := Lh (fun W (hb : Below w.heap.size w W) => by
  have := tCheck_ok T hsm hdq A c K d W (hN.later hb) lq17 (Utf8Tabs_below hT hb); unfold ndV at this
  exact this)
 clear hT
 by_cases hc : chk T = 0
 ·obtain ⟨t0, hks, h2⟩ := mod_kid hc; have hpr : prt T = ba (t0.lin 0) := by rw [prt, if_pos hc, printL, hks]; rfl
  have HPR := Lh hpr; have HCZ := Lh hc; have hdp := (chk_zero hc).1; have hg0 : T.kids[0]? = some t0 := by rw [hks]; rfl
  obtain ⟨b, off, A0, c0', K0, d0, hKe0, hC0, hN0⟩ := hN.kid hg0; rw [Nat.zero_mul, Nat.add_zero] at hC0; subst hKe0; have htd := Nd.depth_kid (mog hg0); have htw := Nd.weight_kid (mog hg0); have hlen : (t0.lin 0).length ≤ 1000000000000 := by
   have h1 := lin_len t0 (nodeAt_okN t0 hN0) 0; have h2 : (400 + 4 * (0 + t0.depth)) * t0.depth * t0.weight ≤ 1600 * 300 * 1000000 := Nat.mul_le_mul (Nat.mul_le_mul lq17 lq17) lq17
   omega
  have hdd : t0.dep = t0.depth := Nd.dep_of (Nd.smk_kid hsm (mog hg0)); have HBK := Lh (fun (X : Nat) => wBlock_ok 300 w X 0 lq17 (wLine_ok w X 300 lq17) t0 h2 lq17 lq17); have HN0 := Lh hN0; have HLe := Lh hlen; have i0 : (0 : Int) < (T.kids.length : Int) := by rw [hks]; simp
  have i0' : 0 < T.kids.length := by rw [hks]; simp
  have hCq := hC0; have hbl : b < w.heap.size := blt hC0.1; clear hpr hc hdp hg0 htd htw hlen hN0 h2 hks; obtain ⟨hm1, hm2, hrm, hw32, hk1, hk2, ⟨hk64a, hk64b⟩, ⟨ha64a, ha64b⟩, hts, hKs, HK⟩ := hN.hd; have hb1 := (Below.refl w.heap.size w).alloc (Nat.le_refl _) (.cells #[.int .i64 T.kind, .int .i64 T.pos, .string T.text, .bool T.neg, .slice A T.mag.length c, .slice (some ⟨b, off, none⟩) T.kids.length d] 29); obtain ⟨c0, c1, c2, c3, c4, c5⟩ := (cellsN_new w T A c (some ⟨b, off, none⟩) d 29).box; unfold ndV; clear hKs hN; go_enter Tryz.func23, Tryz.ntmps23; go_wp2_with fail
  go_at_call 22
  refine (HCh.out _ hb1).mono ?_
  rintro e w3 ⟨he3, hb3⟩; rw [HCZ.out] at he3; subst he3; have hw3 := hb1.trans (hb3.mono hb1.size); obtain ⟨n0, n1, n2, n3, n4, n5⟩ := hCq.later hw3; have d5 := cLt hb3 c5; have hl3 := blt d5; have hbl3 := blt n0; have hWz : WrT w.heap.size w3.heap.size 0 [] (w3.alloc (.cells #[.pointer none, .slice none 0 0, .int .i64 0] 74)) :=
   ⟨_, .inl rfl, hw3.size, .slice none 0 0, heap_alloc_new _ _, ⟨by simp, .inl ⟨rfl, rfl⟩⟩, by simp [Value.ownBlock]⟩
  have hBz : Below w.heap.size w (w3.alloc (.cells #[.pointer none, .slice none 0 0, .int .i64 0] 74)) := hw3.alloc hw3.size _; have hI := HBK.out w3.heap.size A0 c0' K0 d0 [] _ HN0.out hBz hWz (by have := HLe.out; simpa using this); unfold ndV at hI; go_wp2_with fail
  go_at_call 43
  refine hI.mono ?_
  rintro e w4 ⟨rfl, hw4, hk4⟩; clear hI; have hB4 := hBz.trans hk4.b; have hlX := WrT.lt hw4; have hS := wString_ok _ _ _ _ w4 hw4 (Nat.le_trans hBz.size hk4.b.size); rw [List.nil_append] at hS; go_wp2_with fail
  go_at_call 44
  refine hS.mono ?_
  rintro e w5 ⟨rfl, hb5⟩; clear hS; go_wp2_with fail; go_ret; exact ⟨by rw [HPR.out]; rfl, hB4.trans hb5⟩
 ·have HPR := Lh (show prt T = ba [] by rw [prt, if_neg hc]); have hc11 : chk T = 11 := by
   unfold chk at hc ⊢
   split
   ·rename_i h; rw [if_pos h] at hc; exact absurd rfl hc
   ·rfl
  have HCZ := Lh hc11; clear hc hc11; obtain ⟨hm1, hm2, hrm, hw32, hk1, hk2, ⟨hk64a, hk64b⟩, ⟨ha64a, ha64b⟩, hts, hKs, HK⟩ := hN.hd; have hb1 := (Below.refl w.heap.size w).alloc (Nat.le_refl _) (.cells #[.int .i64 T.kind, .int .i64 T.pos, .string T.text, .bool T.neg, .slice A T.mag.length c, .slice K T.kids.length d] 29); obtain ⟨c0, c1, c2, c3, c4, c5⟩ := (cellsN_new w T A c K d 29).box; unfold ndV; clear hKs hN; go_enter Tryz.func23, Tryz.ntmps23; go_wp2_with fail
  go_at_call 22
  refine (HCh.out _ hb1).mono ?_
  rintro e w3 ⟨he3, hb3⟩; rw [HCZ.out] at he3; subst he3; go_wp2_with fail; go_ret; exact ⟨by rw [HPR.out]; rfl, hb1.trans (hb3.mono hb1.size)⟩
end
end Go.Proofs.YtjndbcnmmnkilaaGreatDoor
