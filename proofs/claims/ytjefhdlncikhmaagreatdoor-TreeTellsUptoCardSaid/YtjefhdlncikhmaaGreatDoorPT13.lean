/- Joined by a program: Fq, Q1, Rx4. -/
import Derived.Test.YtjefhdlncikhmaaGreatDoorPT12
namespace Go.Proofs.YtjefhdlncikhmaaGreatDoor
set_option linter.unusedVariables false
set_option linter.unusedSimpArgs false
set_option maxRecDepth 1000000
set_option maxHeartbeats 16000000
section
open Go.RowKit
open List (length_append length_cons length_nil length_singleton)
structure KeepsQ (Q : Nat → Prop) (w w' : World) : Prop where
 os : w'.os = w.os
 tape : w'.tape = w.tape
 output : w'.output = w.output
 size : w.heap.size ≤ w'.heap.size
 block : ∀ k, k < w.heap.size → ¬ Q k → w'.heap[k]? = w.heap[k]?
section
variable {Q : Nat → Prop} {w w' w'' : World}
theorem KeepsQ.below (h : Below w.heap.size w w') : KeepsQ Q w w' := ⟨h.os, h.tape, h.output, h.size, fun k hk _ => h.block k hk⟩
theorem KeepsQ.trans (h : KeepsQ Q w w') (h' : KeepsQ Q w' w'') : KeepsQ Q w w'' := ⟨h'.os.trans h.os, h'.tape.trans h.tape, h'.output.trans h.output, Nat.le_trans h.size h'.size, fun k hk hq => (h'.block k (Nat.lt_of_lt_of_le hk h.size) hq).trans (h.block k hk hq)⟩
theorem KeepsQ.nil (h : KeepsQ (fun _ => False) w w') : KeepsQ Q w w' := ⟨h.os, h.tape, h.output, h.size, fun k hk _ => h.block k hk (fun x => x)⟩
theorem KeepsQ.low (h : KeepsQ Q w w') {B : Nat} (hB : B ≤ w.heap.size) (hQ : ∀ k, Q k → B ≤ k) : Below B w w' := ⟨h.os, h.tape, h.output, h.size, fun k hk => h.block k (Nat.lt_of_lt_of_le hk hB) (fun x => absurd (hQ k x) lq29)⟩
theorem KeepsQ.set {R i : Nat} (hR : Q R) (u : Value) (h : KeepsQ Q (w.setCell ⟨R, i, none⟩ u) w') : KeepsQ Q w w' := by
 have hb := (Below.refl R w).setCell (p := ⟨R, i, none⟩) (Nat.le_refl _) u
 refine ⟨h.os.trans hb.os, h.tape.trans hb.tape, h.output.trans hb.output, by simpa using h.size, fun k hk hq => ?_⟩
 rw [h.block k (by simpa using hk) hq]
 exact Below.heap_setCell _ _ _ _ (fun e => hq (by subst e; exact hR))
theorem cellQ {v : Value} {X i : Nat} (h : KeepsQ Q w w') (hX : ¬ Q X) (hc : w.cell? ⟨X, i, Option.none⟩ = some v) : w'.cell? ⟨X, i, Option.none⟩ = some v := by
 have hl := blt hc
 have hb := h.block X hl hX
 unfold World.cell? at hc ⊢
 rw [hb]
 exact hc
end
def TabsQ (Q : Nat → Prop) (w : World) : Prop := ∀ W, KeepsQ Q w W → Lib.Utf8Tabs 0 1 W
def ShapeOkQ (Q : Nat → Prop) (D : Nat) (w : World) (v : Value) (p : Nd → Bool) : Prop :=
 ∃ f caps, v = .func (.func f) #[] caps ∧ (∀ args W, (callFunc f args).run Tryz.prog W = .ok (.enter f args) W) ∧ ∀ W, KeepsQ Q w W → ∀ (T : Nd) (A : Option Addr) (c : Nat) (K : Option Addr) (d : Nat), T.depth ≤ D → T.weight ≤ 1048576 → NodeAt W T A c K d →
  Calls Tryz.prog f (#[ndV T A c K d] ++ caps) W fun e w' => e = .returned (.bool (p T)) ∧ Below W.heap.size W w'
def TextOkQ (Q : Nat → Prop) (w : World) (v : Value) (q : ByteArray → Bool) : Prop :=
 ∃ f caps, v = .func (.func f) #[] caps ∧ (∀ args W, (callFunc f args).run Tryz.prog W = .ok (.enter f args) W) ∧ ∀ W, KeepsQ Q w W → ∀ s : ByteArray, s.size ≤ 1048576 →
  Calls Tryz.prog f (#[.string s] ++ caps) W fun e w' => e = .returned (.bool (q s)) ∧ Below W.heap.size W w'
def ShapesAtQ (Q : Nat → Prop) (D : Nat) (w : World) (A : Option Addr) (L : List (Nd → Bool)) : Prop := ∀ i p, L[i]? = some p → ∃ b off v, A = some ⟨b, off, none⟩ ∧ ¬ Q b ∧ w.cell? ⟨b, off + i, none⟩ = some v ∧ ShapeOkQ Q D w v p
section
variable {Q : Nat → Prop} {D : Nat} {w w' : World} {v : Value} {p : Nd → Bool} {q : ByteArray → Bool} {A : Option Addr} {L : List (Nd → Bool)}
theorem TabsQ.lat (h : TabsQ Q w) (hb : KeepsQ Q w w') : TabsQ Q w' := fun W hW => h W (hb.trans hW)
theorem TabsQ.now (h : TabsQ Q w) : Lib.Utf8Tabs 0 1 w := h w (KeepsQ.below (Below.refl _ _))
theorem tabsQ_of {w0 : World} (hT : Lib.Utf8Tabs 0 1 w0) (hb : Below w0.heap.size w0 w) (hQ : ∀ k, Q k → w0.heap.size ≤ k) : TabsQ Q w := fun W hW => Utf8Tabs_below hT (hb.trans (hW.low hb.size hQ))
theorem ShapeOkQ.lat (h : ShapeOkQ Q D w v p) (hb : KeepsQ Q w w') : ShapeOkQ Q D w' v p := by
 obtain ⟨f, caps, hv, hrn, hf⟩ := h
 exact ⟨f, caps, hv, hrn, fun W hW => hf W (hb.trans hW)⟩
theorem ShapeOkQ.later (h : ShapeOkQ Q D w v p) (hb : Below w.heap.size w w') : ShapeOkQ Q D w' v p := h.lat (KeepsQ.below hb)
theorem ShapeOkQ.set (h : ShapeOkQ Q D w v p) {R i : Nat} (hR : Q R) (u : Value) : ShapeOkQ Q D (w.setCell ⟨R, i, none⟩ u) v p := by
 obtain ⟨f, caps, hv, hrn, hf⟩ := h
 exact ⟨f, caps, hv, hrn, fun W hW => hf W (KeepsQ.set hR u hW)⟩
theorem ShapeOkQ.plain (h : ShapeOkQ Q D w v p) : ShapeOk D w v p := by
 obtain ⟨f, caps, hv, hrn, hf⟩ := h
 exact ⟨f, caps, hv, hrn, fun W hW => hf W (KeepsQ.below hW)⟩
theorem ShapeOkQ.eq {p' : Nd → Bool} (h : ShapeOkQ Q D w v p) (hpq : ∀ T, p T = p' T) : ShapeOkQ Q D w v p' := by
 have : p = p' := funext hpq
 exact this ▸ h
theorem ShapeOkQ.less {D' : Nat} (h : ShapeOkQ Q D w v p) (hd : D' ≤ D) : ShapeOkQ Q D' w v p := by
 obtain ⟨f, caps, hv, hrn, hf⟩ := h
 exact ⟨f, caps, hv, hrn, fun W hW T A c K d hD => hf W hW T A c K d lq29⟩
theorem TextOkQ.lat (h : TextOkQ Q w v q) (hb : KeepsQ Q w w') : TextOkQ Q w' v q := by
 obtain ⟨f, caps, hv, hrn, hf⟩ := h
 exact ⟨f, caps, hv, hrn, fun W hW => hf W (hb.trans hW)⟩
theorem TextOkQ.later (h : TextOkQ Q w v q) (hb : Below w.heap.size w w') : TextOkQ Q w' v q := h.lat (KeepsQ.below hb)
theorem TextOkQ.set (h : TextOkQ Q w v q) {R i : Nat} (hR : Q R) (u : Value) : TextOkQ Q (w.setCell ⟨R, i, none⟩ u) v q := by
 obtain ⟨f, caps, hv, hrn, hf⟩ := h
 exact ⟨f, caps, hv, hrn, fun W hW => hf W (KeepsQ.set hR u hW)⟩
theorem ShapesAtQ.lat (h : ShapesAtQ Q D w A L) (hb : KeepsQ Q w w') : ShapesAtQ Q D w' A L := fun i p hi => by
 obtain ⟨b, off, v, hA, hq, hc, hs⟩ := h i p hi
 exact ⟨b, off, v, hA, hq, cellQ hb hq hc, hs.lat hb⟩
theorem ShapesAtQ.later (h : ShapesAtQ Q D w A L) (hb : Below w.heap.size w w') : ShapesAtQ Q D w' A L := h.lat (KeepsQ.below hb)
theorem ShapesAtQ.plain (h : ShapesAtQ Q D w A L) : ShapesAt D w A L := fun i p hi => by
 obtain ⟨b, off, v, hA, hq, hc, hs⟩ := h i p hi
 exact ⟨b, off, v, hA, hc, hs.plain⟩
end
theorem shapesQ_new {Q : Nat → Prop} (D : Nat) (w : World) (t : TypeId) (vs : List Value) (L : List (Nd → Bool)) (hQ : ∀ k, Q k → k < w.heap.size) (hlen : vs.length = L.length) (h : ∀ (i : Nat) (v : Value) (p : Nd → Bool), vs[i]? = some v → L[i]? = some p → ShapeOkQ Q D w v p) : ShapesAtQ Q D (w.alloc (.cells vs.toArray t)) (some ⟨w.heap.size, 0, none⟩) L := fun i p hi => by
 have hil : i < vs.length := by rw [hlen]; exact (List.getElem?_eq_some_iff.1 hi).1
 refine ⟨w.heap.size, 0, vs[i], rfl, fun x => absurd (hQ _ x) lq29, ?_, (h i _ p (List.getElem?_eq_getElem hil) hi).later ((Below.refl _ _).alloc (Nat.le_refl _) _)⟩
 rw [Nat.zero_add, cell_of_row _ _ i _ t (0, 0) (heap_alloc_new w _)]
 simp [hil]
theorem shapesQ_nil {Q : Nat → Prop} (D : Nat) (w : World) (A : Option Addr) : ShapesAtQ Q D w A [] := fun i p hi => by simp at hi
theorem shapesQ_one {Q : Nat → Prop} {D : Nat} {w : World} {v : Value} {p : Nd → Bool} (hQ : ∀ k, Q k → k < w.heap.size) (h : ShapeOkQ Q D w v p) (t : TypeId) : ShapesAtQ Q D (w.alloc (.cells #[v] t)) (some ⟨w.heap.size, 0, none⟩) [p] :=
 shapesQ_new D w t [v] [p] hQ rfl (fun (i : Nat) (v' : Value) (p' : Nd → Bool) h1 h2 => by
  cases i with
  | zero => simp at h1 h2; subst h1 h2; exact h
  | succ i => simp at h1)
theorem shapesQ_two {Q : Nat → Prop} {D : Nat} {w : World} {v v2 : Value} {p p2 : Nd → Bool} (hQ : ∀ k, Q k → k < w.heap.size) (h : ShapeOkQ Q D w v p) (h2 : ShapeOkQ Q D w v2 p2) (t : TypeId) : ShapesAtQ Q D (w.alloc (.cells #[v, v2] t)) (some ⟨w.heap.size, 0, none⟩) [p, p2] :=
 shapesQ_new D w t [v, v2] [p, p2] hQ rfl (fun (i : Nat) (v' : Value) (p' : Nd → Bool) h1 h3 => by
  rcases i with _ | _ | i
  ·simp at h1 h3; subst h1 h3; exact h
  ·simp at h1 h3; subst h1 h3; exact h2
  ·simp at h1)
theorem shapesQ_three {Q : Nat → Prop} {D : Nat} {w : World} {v v2 v3 : Value} {p p2 p3 : Nd → Bool} (hQ : ∀ k, Q k → k < w.heap.size) (h : ShapeOkQ Q D w v p) (h2 : ShapeOkQ Q D w v2 p2) (h3 : ShapeOkQ Q D w v3 p3) (t : TypeId) : ShapesAtQ Q D (w.alloc (.cells #[v, v2, v3] t)) (some ⟨w.heap.size, 0, none⟩) [p, p2, p3] :=
 shapesQ_new D w t [v, v2, v3] [p, p2, p3] hQ rfl (fun (i : Nat) (v' : Value) (p' : Nd → Bool) h1 h4 => by
  rcases i with _ | _ | _ | i
  ·simp at h1 h4; subst h1 h4; exact h
  ·simp at h1 h4; subst h1 h4; exact h2
  ·simp at h1 h4; subst h1 h4; exact h3
  ·simp at h1)
section
variable {Q : Nat → Prop} {D : Nat} {w : World}
theorem kidsQ_ok (hQ : ∀ k, Q k → k < w.heap.size) (L : List (Nd → Bool)) (m : Nat) (A : Option Addr) (hm : L.length = m) (hL : ShapesAtQ Q D w A L) (hc : m ≤ maxLen) :
  Calls Tryz.prog 63 #[.slice A m m] w fun e w' => (∃ v, e = .returned v ∧ ShapeOkQ Q (D + 1) w' v fun T => rowB T.kids L) ∧ Below w.heap.size w w' := by
 have hb1 := (Below.refl w.heap.size w).alloc (Nat.le_refl _) (.cells #[.slice A m m] 113)
 have HS : ShapeOkQ Q (D + 1) (w.alloc (.cells #[.slice A m m] 113)) (.func (.func 126) #[] #[.pointer (some ⟨w.heap.size, 0, none⟩)]) fun T => rowB T.kids L :=
  ⟨_, _, rfl, run_call _ _ Tryz.func126 lq27 lq27, fun W hW T A2 c2 K d hD hWt hN => kids1_ok D L m m w.heap.size A W hm ((hL.later hb1).lat hW).plain (Nat.le_refl _) hc (cellQ hW (fun x => absurd (hQ _ x) lq29) (box_one w _ _)) T A2 c2 K d hD hWt hN⟩
 clear hL
 go_enter Tryz.func63, Tryz.ntmps63
 go_wp2
 go_ret
 exact ⟨⟨_, rfl, HS⟩, hb1⟩
theorem orQ_ok (hQ : ∀ k, Q k → k < w.heap.size) (L : List (Nd → Bool)) (m : Nat) (A : Option Addr) (hm : L.length = m) (hL : ShapesAtQ Q D w A L) (hc : m ≤ maxLen) :
  Calls Tryz.prog 69 #[.slice A m m] w fun e w' => (∃ v, e = .returned v ∧ ShapeOkQ Q D w' v fun T => anyB T L) ∧ Below w.heap.size w w' := by
 have hb1 := (Below.refl w.heap.size w).alloc (Nat.le_refl _) (.cells #[.slice A m m] 113)
 have HS : ShapeOkQ Q D (w.alloc (.cells #[.slice A m m] 113)) (.func (.func 132) #[] #[.pointer (some ⟨w.heap.size, 0, none⟩)]) fun T => anyB T L :=
  ⟨_, _, rfl, run_call _ _ Tryz.func132 lq27 lq27, fun W hW T A2 c2 K d hD hWt hN => or1_ok D L m m w.heap.size A W hm ((hL.later hb1).lat hW).plain (Nat.le_refl _) hc (cellQ hW (fun x => absurd (hQ _ x) lq29) (box_one w _ _)) T A2 c2 K d hD hWt hN⟩
 clear hL
 go_enter Tryz.func69, Tryz.ntmps69
 go_wp2
 go_ret
 exact ⟨⟨_, rfl, HS⟩, hb1⟩
theorem or2Q_ok (hQ : ∀ k, Q k → k < w.heap.size) (a b : Sh) (A : Option Addr) (hL : ShapesAtQ Q D w A [a.ev Nd.right, b.ev Nd.right]) :
  Calls Tryz.prog 69 #[.slice A 2 2] w fun e w' => (∃ v, e = .returned v ∧ ShapeOkQ Q D w' v ((Sh.or2 a b).ev Nd.right)) ∧ Below w.heap.size w w' := by
 refine (orQ_ok hQ _ 2 A rfl hL lq24).mono ?_
 rintro e w' ⟨⟨v, rfl, hv⟩, hb⟩
 exact ⟨⟨v, rfl, hv.eq fun T => any2 T a b⟩, hb⟩
theorem someQ_ok (hQ : ∀ k, Q k → k < w.heap.size) (v : Value) (p : Nd → Bool) (m : Nat) (hS : ShapeOkQ Q D w v p) (hm : m ≤ 10) :
  Calls Tryz.prog 65 #[.int .i64 m, v] w fun e w' => (∃ v', e = .returned v' ∧ ShapeOkQ Q (D + 1) w' v' fun T => decide (m ≤ T.kids.length) && T.kids.all p) ∧ Below w.heap.size w w' := by
 have hb1 := (Below.refl w.heap.size w).alloc (Nat.le_refl _) (.cells #[.int .i64 m] 3)
 have hb2 := hb1.alloc hb1.size (.cells #[v] 69)
 have hx := cLt ((Below.refl _ _).alloc (Nat.le_refl _) (.cells #[v] 69)) (box_one w (.int .i64 m) 3)
 have hy := box_one (w.alloc (.cells #[.int .i64 m] 3)) v 69
 rw [show (w.alloc (.cells #[.int .i64 m] 3)).heap.size = w.heap.size + 1 by simp] at hy
 have HS : ShapeOkQ Q (D + 1) ((w.alloc (.cells #[.int .i64 m] 3)).alloc (.cells #[v] 69)) (.func (.func 129) #[] #[.pointer (some ⟨w.heap.size, 0, none⟩), .pointer (some ⟨w.heap.size + 1, 0, none⟩)]) fun T => decide (m ≤ T.kids.length) && T.kids.all p :=
  ⟨_, _, rfl, run_call _ _ Tryz.func129 lq27 lq27, fun W hW T A2 c2 K d hD hWt hN => some1_ok D v p m w.heap.size (w.heap.size + 1) W ((hS.later hb2).lat hW).plain hm (cellQ hW (fun x => absurd (hQ _ x) lq29) hx) (cellQ hW (fun x => absurd (hQ _ x) lq29) hy) T A2 c2 K d hD hWt hN⟩
 obtain ⟨f, caps, hv, _⟩ := hS
 subst hv
 clear hx hy
 go_enter Tryz.func65, Tryz.ntmps65
 go_wp2
 go_ret
 exact ⟨⟨_, rfl, HS⟩, hb2⟩
theorem compQ_ok (hRi : RightOk D) (hQ : ∀ k, Q k → k < w.heap.size) (v0 : Value) (s : Sh) (hT : TabsQ Q w) (hS : ShapeOkQ Q D w v0 (s.ev Nd.right)) :
  Calls Tryz.prog 138 #[v0] w fun e w' => (∃ v, e = .returned v ∧ ShapeOkQ Q (D + 1) w' v ((Fm.cmp s).ev Nd.right)) ∧ Below w.heap.size w w' := by
 have hb1 := (Below.refl w.heap.size w).alloc (Nat.le_refl _) (.cells #[v0] 69)
 have HS : ShapeOkQ Q (D + 1) (w.alloc (.cells #[v0] 69)) (.func (.func 180) #[] #[.pointer (some ⟨w.heap.size, 0, none⟩)]) ((Fm.cmp s).ev Nd.right) :=
  ⟨_, _, rfl, run_call _ _ Tryz.func180 lq27 lq27, fun W hW T A c K d hD hWt hN => tComp1_ok v0 (s.ev Nd.right) w.heap.size D hRi T A c K d W hD hWt hN (hT W ((KeepsQ.below hb1).trans hW)) ((hS.later hb1).lat hW).plain (cellQ hW (fun x => absurd (hQ _ x) lq29) (box_one w _ _))⟩
 obtain ⟨f, caps, hv, _⟩ := hS
 subst hv
 clear hT hRi
 go_enter Tryz.func138, Tryz.ntmps138
 go_wp2
 go_ret
 exact ⟨⟨_, rfl, HS⟩, hb1⟩
theorem ofQ_ok (hRi : RightOk D) (hQ : ∀ k, Q k → k < w.heap.size) (hT : TabsQ Q w) (k : Int) : Calls Tryz.prog 64 #[.int .i64 k] w fun e w' => (∃ v, e = .returned v ∧ ShapeOkQ Q D w' v ((Sh.of k).ev Nd.right)) ∧ Below w.heap.size w w' := by
 have hb1 := (Below.refl w.heap.size w).alloc (Nat.le_refl _) (.cells #[.int .i64 k] 3)
 have HS : ShapeOkQ Q D (w.alloc (.cells #[.int .i64 k] 3)) (.func (.func 128) #[] #[.pointer (some ⟨w.heap.size, 0, none⟩)]) ((Sh.of k).ev Nd.right) :=
  ⟨_, _, rfl, run_call _ _ Tryz.func128 lq27 lq27, fun W hW T A c K d hD hWt hN => tOf1_ok k w.heap.size D hRi T A c K d W hD hWt hN (hT W ((KeepsQ.below hb1).trans hW)) (cellQ hW (fun x => absurd (hQ _ x) lq29) (box_one w _ _))⟩
 clear hT hRi
 go_enter Tryz.func64, Tryz.ntmps64
 go_wp2
 go_ret
 exact ⟨⟨_, rfl, HS⟩, hb1⟩
theorem textQ_ok (hQ : ∀ k, Q k → k < w.heap.size + 1) (L : List (List UInt8)) (m : Nat) (cs : Array Value) (t : TypeId) (hm : L.length = m) (h0 : 0 < m) (hm2 : m ≤ 1000) (hc : cs = (L.map fun l => Value.string ⟨l.toArray⟩).toArray) :
  Calls Tryz.prog 61 #[.slice (some ⟨w.heap.size + 1, 0, none⟩) m m] ((w.alloc (.cells #[.nilFunc, .nilFunc] 71)).alloc (.cells cs t)) fun e w' => (∃ v, e = .returned v ∧ TextOkQ Q w' v (Tx.words L).ev) ∧ Below ((w.alloc (.cells #[.nilFunc, .nilFunc] 71)).alloc (.cells cs t)).heap.size ((w.alloc (.cells #[.nilFunc, .nilFunc] 71)).alloc (.cells cs t)) w' := by
 have hL : StrsAt ((w.alloc (.cells #[.nilFunc, .nilFunc] 71)).alloc (.cells cs t)) (some ⟨w.heap.size + 1, 0, none⟩) (L.map fun l => ⟨l.toArray⟩) := by
  have := strsAt_new (w.alloc (.cells #[.nilFunc, .nilFunc] 71)) (L.map fun l => ⟨l.toArray⟩) t cs (by rw [hc, List.map_map]; rfl)
  simpa using this
 have hz : ((w.alloc (.cells #[.nilFunc, .nilFunc] 71)).alloc (.cells cs t)).heap.size = w.heap.size + 2 := by simp
 generalize (w.alloc (.cells #[.nilFunc, .nilFunc] 71)).alloc (.cells cs t) = w2 at *
 have hb1 := (Below.refl w2.heap.size w2).alloc (Nat.le_refl _) (.cells #[.slice (some ⟨w.heap.size + 1, 0, none⟩) m m] 111)
 have HS : TextOkQ Q (w2.alloc (.cells #[.slice (some ⟨w.heap.size + 1, 0, none⟩) m m] 111)) (.func (.func 124) #[] #[.pointer (some ⟨w2.heap.size, 0, none⟩)]) (Tx.words L).ev :=
  ⟨_, _, rfl, run_call _ _ Tryz.func124 lq27 lq27, fun W hW s _ => by
   have hst : StrsAt W (some ⟨w.heap.size + 1, 0, none⟩) (L.map fun l => ⟨l.toArray⟩) := fun i s hi => by
    obtain ⟨b, off, hA, hc⟩ := (hL.later hb1) i s hi
    refine ⟨b, off, hA, ?_⟩
    injection hA with hA
    injection hA with e1 e2
    subst e1 e2; exact cellQ hW (fun x => absurd (hQ _ x) lq29) hc
   have := text1_ok (L.map fun l => ⟨l.toArray⟩) m m w2.heap.size _ s W (by simpa using hm) h0 hst hm2 (cellQ hW (fun x => absurd (hQ _ x) lq29) (box_one w2 _ _)); rw [containsS_eq] at this
   exact this⟩
 rw [hz] at HS
 clear hL
 go_enter Tryz.func61, Tryz.ntmps61
 go_wp2
 go_ret
 exact ⟨⟨_, rfl, HS⟩, hb1⟩
theorem textQ_non : TextOkQ Q w (.func (.func 62) #[] #[]) Tx.non.ev :=
 ⟨_, _, rfl, run_call _ _ Tryz.func62 lq27 lq27, fun W _ s _ => noText_ok s W⟩
theorem textQ_name : TextOkQ Q w (.func (.func 73) #[] #[]) Tx.name.ev :=
 ⟨_, _, rfl, run_call _ _ Tryz.func73 lq27 lq27, fun W _ s hs => isName_ok s W lq29⟩
theorem textQ_exc : TextOkQ Q w (.func (.func 77) #[] #[]) Tx.exc.ev :=
 ⟨_, _, rfl, run_call _ _ Tryz.func77 lq27 lq27, fun W _ s hs => excText_ok s W hs⟩
theorem textQ_good (hT : TabsQ Q w) : TextOkQ Q w (.func (.func 137) #[] #[]) Tx.good.ev :=
 ⟨_, _, rfl, run_call _ _ Tryz.func137 lq27 lq27, fun W hW s hs => good_ok s W lq29 (hT W hW)⟩
theorem qNone : ShapeOkQ Q D w (.func (.func 70) #[] #[]) (Sh.none.ev Nd.right) := ⟨_, _, rfl, run_call _ _ Tryz.func70 lq27 lq27, fun W hW T A c K d hD hWt hN => tNone_ok T A c K d W hN⟩
variable (hRi : RightOk D) (hT : TabsQ Q w)
include hRi hT
theorem qExpr : ShapeOkQ Q D w (.func (.func 67) #[] #[]) (Sh.expr.ev Nd.right) := ⟨_, _, rfl, run_call _ _ Tryz.func67 lq27 lq27, fun W hW T A c K d hD hWt hN => tExpr_ok D hRi T A c K d W hD hWt hN (hT W hW)⟩
theorem qStmt : ShapeOkQ Q D w (.func (.func 66) #[] #[]) (Sh.stmt.ev Nd.right) := ⟨_, _, rfl, run_call _ _ Tryz.func66 lq27 lq27, fun W hW T A c K d hD hWt hN => tStmt_ok D hRi T A c K d W hD hWt hN (hT W hW)⟩
theorem qTarget : ShapeOkQ Q D w (.func (.func 68) #[] #[]) (Sh.target.ev Nd.right) := ⟨_, _, rfl, run_call _ _ Tryz.func68 lq27 lq27, fun W hW T A c K d hD hWt hN => tTarget_ok D hRi T A c K d W hD hWt hN (hT W hW)⟩
theorem qTargets : ShapeOkQ Q D w (.func (.func 72) #[] #[]) (Sh.targets.ev Nd.right) := ⟨_, _, rfl, run_call _ _ Tryz.func72 lq27 lq27, fun W hW T A c K d hD hWt hN => tTargets_ok D hRi T A c K d W hD hWt hN (hT W hW)⟩
theorem qBlock : ShapeOkQ Q D w (.func (.func 71) #[] #[]) (Sh.block.ev Nd.right) := ⟨_, _, rfl, run_call _ _ Tryz.func71 lq27 lq27, fun W hW T A c K d hD hWt hN => tBlock_ok D hRi T A c K d W hD hWt hN (hT W hW)⟩
theorem qDef : ShapeOkQ Q (D + 1) w (.func (.func 74) #[] #[]) (Fm.dfn.ev Nd.right) := ⟨_, _, rfl, run_call _ _ Tryz.func74 lq27 lq27, fun W hW T A c K d hD hWt hN => tDef_ok D hRi T A c K d W hD hWt hN (hT W hW)⟩
theorem qParam : ShapeOkQ Q (D + 1) w (.func (.func 75) #[] #[]) (Fm.prm.ev Nd.right) := ⟨_, _, rfl, run_call _ _ Tryz.func75 lq27 lq27, fun W hW T A c K d hD hWt hN => tParam_ok D hRi T A c K d W hD hWt hN (hT W hW)⟩
theorem qTry : ShapeOkQ Q (D + 1) w (.func (.func 76) #[] #[]) (Fm.tri.ev Nd.right) := ⟨_, _, rfl, run_call _ _ Tryz.func76 lq27 lq27, fun W hW T A c K d hD hWt hN => tTry_ok D hRi T A c K d W hD hWt hN (hT W hW)⟩
theorem qExcept : ShapeOkQ Q (D + 1) w (.func (.func 78) #[] #[]) (Fm.exc.ev Nd.right) := ⟨_, _, rfl, run_call _ _ Tryz.func78 lq27 lq27, fun W hW T A c K d hD hWt hN => tExcept_ok D hRi T A c K d W hD hWt hN (hT W hW)⟩
theorem qCall : ShapeOkQ Q (D + 1) w (.func (.func 139) #[] #[]) (Fm.cll.ev Nd.right) := ⟨_, _, rfl, run_call _ _ Tryz.func139 lq27 lq27, fun W hW T A c K d hD hWt hN => tCall_ok D hRi T A c K d W hD hWt hN (hT W hW)⟩
end
section
variable (T : Nd) (A : Option Addr) (c : Nat) (K : Option Addr) (d : Nat) (w : World) (hN : NodeAt w T A c K d)
include T A c K d w hN
theorem rBare_ok :
  Calls Tryz.prog 34 #[ndV T A c K d] w fun e w' => e = .returned (.bool (noNumB T)) ∧ Below w.heap.size w w' := by
 by_cases h0 : T.mag.length = 0
 ·have e1 : ((T.mag.length : Int) == 0) = true := by rw [h0]; rfl
  have e2 : (T.mag.length == 0) = true := by rw [h0]; rfl
  have HNB := Lh (show noNumB T = !T.neg by simp [noNumB, e2]); exact lv146
 ·have e1 : ((T.mag.length : Int) == 0) = false := beq0F h0; have e2 : (T.mag.length == 0) = false := by simpa using h0
  have HNB := Lh (show noNumB T = false by simp [noNumB, e2]); exact lv146
theorem rNone_ok :
  Calls Tryz.prog 94 #[ndV T A c K d] w fun e w' => e = .returned (.bool (Sh.none.ev Nd.right T)) ∧ Below w.heap.size w w' := by
 have HTE := Lh (text_empty T.text)
 by_cases hk : T.kind = 0
 ·have gk : (T.kind == 0) = true := by simpa using hk
  by_cases ht : T.text.size = 0
  ·have gt : (T.text.size == 0) = true := by rw [ht]; rfl
   have et : T.text.toList.isEmpty = true := by rw [HTE.out, gt]
   by_cases hl : T.kids.length = 0
   ·have gl : (T.kids.length == 0) = true := by rw [hl]; rfl
    have el : ((T.kids.length : Int) == 0) = true := by rw [hl]; rfl
    by_cases hm : T.mag.length = 0
    ·have gm : (T.mag.length == 0) = true := by rw [hm]; rfl
     have em : ((T.mag.length : Int) == 0) = true := by rw [hm]; rfl
     have HV := Lh (show Sh.none.ev Nd.right T = !T.neg by simp [Sh.ev, noNumB, gk, gt, gl, gm]); exact lv141
    ·have gm : (T.mag.length == 0) = false := by simpa using hm
     have em : ((T.mag.length : Int) == 0) = false := beq0F hm; have HV := Lh (show Sh.none.ev Nd.right T = false by simp [Sh.ev, noNumB, gk, gt, gl, gm]); exact lv141
   ·have gl : (T.kids.length == 0) = false := by simpa using hl
    have el : ((T.kids.length : Int) == 0) = false := beq0F hl; have HV := Lh (show Sh.none.ev Nd.right T = false by simp [Sh.ev, noNumB, gk, gt, gl]); clear hk ht hl; exact lv151
  ·have gt : (T.text.size == 0) = false := by simpa using ht
   have et : T.text.toList.isEmpty = false := by rw [HTE.out, gt]
   have HV := Lh (show Sh.none.ev Nd.right T = false by simp [Sh.ev, noNumB, gk, gt]); clear hk ht; exact lv151
 ·have gk : (T.kind == 0) = false := by simpa using hk
  have HV := Lh (show Sh.none.ev Nd.right T = false by simp [Sh.ev, noNumB, gk]); clear hk; exact lv151
end
theorem containsS_take {L : List ByteArray} {k : Nat} {x : ByteArray} (h : L[k]? = some x) (s : ByteArray) : Lib.containsS (L.take (k + 1)) s = (Lib.containsS (L.take k) s || (x.toList == s.toList)) := by
 obtain ⟨hk, rfl⟩ := List.getElem?_eq_some_iff.1 h
 rw [Bool.eq_iff_iff]
 have hi : ∀ a b : ByteArray, a.toList = b.toList ↔ a = b := fun a b => ⟨fun h => by rw [Lib.toList_data, Lib.toList_data] at h; cases a; cases b; simp at h; subst h; rfl, fun h => by rw [h]⟩
 simp only [Bool.or_eq_true, Lib.containsS_iff, beq_iff_eq, hi]
 rw [List.take_succ_eq_append_getElem hk, List.mem_append, List.mem_singleton]
 constructor
 ·rintro (h | h)
  ·exact .inl h
  ·exact .inr h.symm
 ·rintro (h | h)
  ·exact .inl h
  ·exact .inr h.symm
theorem containsS_le {L : List ByteArray} {k : Nat} {s : ByteArray} (h : Lib.containsS (L.take k) s = true) : Lib.containsS L s = true := by
 rw [Lib.containsS_iff] at h ⊢
 exact List.mem_of_mem_take h
theorem rIn_ok (L : List ByteArray) (n c : Nat) (A : Option Addr) (s : ByteArray) (w : World) (hn : L.length = n) (hL : StrsAt w A L) (hnc : n ≤ c) (hc : c ≤ maxLen) :
  Calls Tryz.prog 149 #[.string s, .slice A n c] w fun e w' => e = .returned (.bool (Lib.containsS L s)) ∧ Below w.heap.size w w' := by
 unfold maxLen at hc
 have HN := Lh hn
 have HL := Lh hL
 clear hn hL
 go_enter Tryz.func149, Tryz.ntmps149
 go_wp2_with fail
 go_loopw [5] (fun iv wr => ∃ k : Nat, iv = .int .i64 k ∧ k ≤ n ∧ Hid (Lib.containsS (L.take k) s = false) ∧ Below w.heap.size w wr) (fun iv _ => n - (intOf iv).toNat)
 case atStart => exact ⟨0, rfl, Nat.zero_le _, Lh (by rfl), Below.refl _ _⟩
 case round =>
  obtain ⟨k, rfl, hk, hR, hbr⟩ := hrel
  by_cases hkl : k < n
  ·have o1 : decide ((k : Int) < (n : Int)) = true := dTo; have o2 : decide (k < n) = true := dTr hkl; obtain ⟨x, hx⟩ : ∃ x, L[k]? = some x := ⟨_, List.getElem?_eq_getElem (by rw [HN.out]; exact hkl)⟩; obtain ⟨b, off, hA, hcell⟩ := HL.out k x hx; subst hA; have hc2 := cLt hbr hcell; have HCT := Lh (containsS_take hx s); clear hcell hx
   by_cases hxs : x.toList = s.toList
   ·have e2 : (x.toList == s.toList) = true := by simpa using hxs
    have HV := Lh (show Lib.containsS L s = true from containsS_le (k := k + 1) (by rw [HCT.out, e2, Bool.or_true])); clear hxs; go_wp2_with fail; go_ret; exact ⟨by rw [HV.out]; rfl, hbr⟩
   ·have e2 : (x.toList == s.toList) = false := by simpa using hxs
    have HV := Lh (show Lib.containsS (L.take (k + 1)) s = false by rw [HCT.out, e2, hR.out]; rfl); clear hxs; go_wp2_with fail
    go_roundw
    case rel => exact ⟨k + 1, by go_num, by omega, HV, hbr⟩
    case measure => simp [intOf]; omega
  ·have o1 : decide ((k : Int) < (n : Int)) = false := dFo; have o2 : decide (k < n) = false := dFa hkl; have hR2 := hR.out; rw [List.take_of_length_le (by have := HN.out; omega)] at hR2; have HR2 := Lh hR2; clear hR2; go_wp2_with fail; go_ret; exact ⟨by rw [HR2.out]; rfl, hbr⟩
theorem rOperator_ok (s : ByteArray) (w : World) : Calls Tryz.prog 89 #[.string s] w fun e w' => e = .returned (.bool ((Tx.words signsL).ev s)) ∧ Below w.heap.size w w' := by
 have HI := Lh (fun (cs : Array Value) (t : TypeId) (hc : cs = ((signsL.map fun l => (⟨l.toArray⟩ : ByteArray)).map Value.string).toArray) => rIn_ok (signsL.map fun l => ⟨l.toArray⟩) 8 8 _ s _ lq28 (strsAt_new w _ t cs hc) (Nat.le_refl _) lq24)
 have hb1 := fun o => (Below.refl w.heap.size w).alloc (Nat.le_refl _) o
 have HV := Lh (containsS_eq signsL s)
 go_enter Tryz.func89, Tryz.ntmps89
 go_wp2_with (go_at_call 149; refine (HI.out _ _ rfl).mono ?_; rintro e w3 ⟨rfl, hb3⟩)
 go_ret
 exact ⟨by rw [HV.out]; rfl, (hb1 _).trans (hb3.mono (hb1 _).size)⟩
theorem rComparison_ok (s : ByteArray) (w : World) : Calls Tryz.prog 153 #[.string s] w fun e w' => e = .returned (.bool ((Tx.words compsL).ev s)) ∧ Below w.heap.size w w' := by
 have HI := Lh (fun (cs : Array Value) (t : TypeId) (hc : cs = ((compsL.map fun l => (⟨l.toArray⟩ : ByteArray)).map Value.string).toArray) => rIn_ok (compsL.map fun l => ⟨l.toArray⟩) 10 10 _ s _ lq28 (strsAt_new w _ t cs hc) (Nat.le_refl _) lq24)
 have hb1 := fun o => (Below.refl w.heap.size w).alloc (Nat.le_refl _) o
 have HV := Lh (containsS_eq compsL s)
 go_enter Tryz.func153, Tryz.ntmps153
 go_wp2_with (go_at_call 149; refine (HI.out _ _ rfl).mono ?_; rintro e w3 ⟨rfl, hb3⟩)
 go_ret
 exact ⟨by rw [HV.out]; rfl, (hb1 _).trans (hb3.mono (hb1 _).size)⟩
def strV (l : List (List UInt8)) : List Value := l.map fun x => Value.string ⟨x.toArray⟩
theorem strs_at (w : World) (l : List (List UInt8)) (t : TypeId) (k : Nat) (hk : k < l.length) : (w.alloc (.cells (strV l).toArray t)).cell? ⟨w.heap.size, k, none⟩ = some (.string ⟨(l.getD k []).toArray⟩) := by
 simp only [World.cell?, heap_alloc_new]
 simp [strV, List.getD_eq_getElem?_getD, List.getElem?_eq_getElem hk]
theorem text_eq {x : List UInt8} {s : ByteArray} : (⟨x.toArray⟩ : ByteArray) = s ↔ x = s.data.toList := by
 constructor
 ·intro h; rw [← h]
 ·intro h; rw [h]
theorem txt_ne {a b : ByteArray} (h : ¬ a = b) : (a.toList == b.toList) = false := by
 rw [ByteArray.toList_eq, ByteArray.toList_eq, beq_eq_false_iff_ne]
 intro e
 exact h (by rw [← text_eq.2 e])
theorem not_in {l : List (List UInt8)} {x : List UInt8} (h : ∀ j, j < l.length → l.getD j [] ≠ x) : l.contains x = false := by
 rw [Bool.eq_false_iff]
 intro hc
 rw [List.contains_iff_mem] at hc
 obtain ⟨j, hj, e⟩ := List.getElem_of_mem hc
 exact h j hj (by rw [List.getD_eq_getElem?_getD, List.getElem?_eq_getElem hj]; exact e)
theorem is_in {l : List (List UInt8)} {x : List UInt8} {k : Nat} (hk : k < l.length) (h : l.getD k [] = x) : l.contains x = true := by
 rw [List.contains_iff_mem, ← h, List.getD_eq_getElem?_getD, List.getElem?_eq_getElem hk]
 exact List.getElem_mem hk
theorem refWord_ok (s : ByteArray) (w : World) : Calls Tryz.prog 106 #[.string s] w fun e w' => e = .returned (.bool (wordB s.data.toList)) ∧ Below w.heap.size w w' := by
 obtain ⟨R, hR⟩ : ∃ R : Bool → Ending → World → Prop, (fun b e w' => e = .returned (.bool b) ∧ Below w.heap.size w w') = R := ⟨_, rfl⟩
 have hRe := Lh (fun b e w' (h : e = Ending.returned (.bool b)) (hb : Below w.heap.size w w') => show R b e w' by rw [← hR]; exact ⟨h, hb⟩)
 show Calls Tryz.prog 106 #[.string s] w ((fun b e w' => e = .returned (.bool b) ∧ Below w.heap.size w w') (wordB s.data.toList))
 rw [hR]
 clear hR
 have hc := fun k => strs_at w wordsL 9 k
 have hb := (Below.refl w.heap.size w).alloc (Nat.le_refl _) (.cells (strV wordsL).toArray 9)
 go_enter Tryz.func106, Tryz.ntmps106
 go_wp2_with fail
 generalize hW1 : w.alloc _ = W1
 replace hc : ∀ k, k < 26 → W1.cell? ⟨w.heap.size, k, none⟩ = some (.string ⟨(wordsL.getD k []).toArray⟩) := fun k hk => by rw [← hW1]; exact hc k hk
 replace hb : Below w.heap.size w W1 := by rw [← hW1]; exact hb
 clear hW1
 have HB := Lh hb
 have HC := Lh hc
 clear hb hc
 go_loop [4] (fun v => ∃ k : Nat, v = .int .i64 k ∧ k ≤ 26 ∧ Hid (∀ j, j < k → wordsL.getD j [] ≠ s.data.toList)) (fun v => 26 - (intOf v).toNat)
 case atStart => exact ⟨0, rfl, by omega, Lh (fun j h => absurd h (Nat.not_lt_zero j))⟩
 case round =>
  obtain ⟨k, rfl, hk, hn⟩ := hrel
  by_cases hlt : k < 26
  ·have hck := HC.out k hlt
   by_cases he : (⟨(wordsL.getD k []).toArray⟩ : ByteArray) = s
   ·have hw := Lh (show wordB s.data.toList = true from is_in (l := wordsL) hlt (text_eq.1 he)); rw [he] at hck; clear he; go_wp2; exact hRe.out _ _ _ (by rw [hw.out]) HB.out
   ·have hn2 := Lh (show ∀ j, j < k + 1 → wordsL.getD j [] ≠ s.data.toList from fun j hj => if e : j = k then by subst e; exact fun e2 => he (text_eq.2 e2) else hn.out j lq29)
    generalize (⟨(wordsL.getD k []).toArray⟩ : ByteArray) = T at *
    have e1 : (T.toList == s.toList) = false := txt_ne he; go_wp2
    go_round
    case rel => exact ⟨k + 1, by go_num, by omega, hn2⟩
    case measure => simp [intOf]; omega
  ·have hke : k = 26 := by omega
   subst hke; have hw := Lh (show wordB s.data.toList = false from not_in (l := wordsL) hn.out); go_wp2; exact hRe.out _ _ _ (by rw [hw.out]) HB.out
end
end Go.Proofs.YtjefhdlncikhmaaGreatDoor
