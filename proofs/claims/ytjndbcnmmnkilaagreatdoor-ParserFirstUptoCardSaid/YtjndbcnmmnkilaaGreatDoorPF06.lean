/- Joined by a program: Pd4. -/
import Derived.Test.YtjndbcnmmnkilaaGreatDoorPF05
namespace Go.Proofs.YtjndbcnmmnkilaaGreatDoor
set_option linter.unusedVariables false
set_option linter.unusedSimpArgs false
set_option maxRecDepth 1000000
set_option maxHeartbeats 16000000
section
open Go.RowKit
open List (length_append length_cons length_nil length_singleton)
section
variable {w w' : World} {b : Nat} {v0 v1 v2 v3 v4 v5 u0 u1 u2 u3 u4 u5 : Value} {t : TypeId}
theorem bx_cells (h : w.heap[b]? = some (.cells #[v0, v1, v2, v3, v4, v5] t)) : w.cell? ⟨b, 0, none⟩ = some v0 ∧ w.cell? ⟨b, 1, none⟩ = some v1 ∧ w.cell? ⟨b, 2, none⟩ = some v2 ∧ w.cell? ⟨b, 3, none⟩ = some v3 ∧ w.cell? ⟨b, 4, none⟩ = some v4 ∧ w.cell? ⟨b, 5, none⟩ = some v5 :=
 ⟨cell_of_row _ _ 0 _ _ _ h, cell_of_row _ _ 1 _ _ _ h, cell_of_row _ _ 2 _ _ _ h, cell_of_row _ _ 3 _ _ _ h, cell_of_row _ _ 4 _ _ _ h, cell_of_row _ _ 5 _ _ _ h⟩
theorem bx_put (h : w.heap[b]? = some (.cells #[v0, v1, v2, v3, v4, v5] t)) : ((((((w.setCell ⟨b, 0, none⟩ u0).setCell ⟨b, 1, none⟩ u1).setCell ⟨b, 2, none⟩ u2).setCell ⟨b, 3, none⟩ u3).setCell ⟨b, 4, none⟩ u4).setCell ⟨b, 5, none⟩ u5).heap[b]? = some (.cells #[u0, u1, u2, u3, u4, u5] t) := by
 simp [World.setCell, Array.getElem?_modify, h]
theorem bx_off {k : Nat} (hk : k ≠ b) : ((((((w.setCell ⟨b, 0, none⟩ u0).setCell ⟨b, 1, none⟩ u1).setCell ⟨b, 2, none⟩ u2).setCell ⟨b, 3, none⟩ u3).setCell ⟨b, 4, none⟩ u4).setCell ⟨b, 5, none⟩ u5).heap[k]? = w.heap[k]? := by
 have : ∀ (w : World) i u, (w.setCell ⟨b, i, none⟩ u).heap[k]? = w.heap[k]? := fun w i u => Below.heap_setCell _ _ _ _ (fun e => hk (by simpa using e))
 simp only [this]
theorem bx_size : ((((((w.setCell ⟨b, 0, none⟩ u0).setCell ⟨b, 1, none⟩ u1).setCell ⟨b, 2, none⟩ u2).setCell ⟨b, 3, none⟩ u3).setCell ⟨b, 4, none⟩ u4).setCell ⟨b, 5, none⟩ u5).heap.size = w.heap.size := by simp [World.setCell]
theorem bx_kp {B X : Nat} {ws : World} (h : Kp B X ws w) (hb : B ≤ b) : Kp B X ws ((((((w.setCell ⟨b, 0, none⟩ u0).setCell ⟨b, 1, none⟩ u1).setCell ⟨b, 2, none⟩ u2).setCell ⟨b, 3, none⟩ u3).setCell ⟨b, 4, none⟩ u4).setCell ⟨b, 5, none⟩ u5) :=
 (((((h.set b 0 u0 (.inl hb)).set b 1 u1 (.inl hb)).set b 2 u2 (.inl hb)).set b 3 u3 (.inl hb)).set b 4 u4 (.inl hb)).set b 5 u5 (.inl hb)
end
section
variable {e : Int} {X b lo x : Nat} {P : Nat → Prop} {w W : World} {l : List Tok} {T : Nd} {A K : Option Addr} {c d : Nat}
theorem ret6 (hk : Kp w.heap.size X w W) (hP : Pz e W X l) (hF : St (Pt P lo x W.heap.size) W T A c K d) (hb : w.heap.size ≤ b) (hlo : b < lo) (hXw : X < w.heap.size) (hO : Old P X w.heap.size) {R : Rs Nd} (hR : R = .ok T l) {u0 u1 u2 u3 u4 u5 : Value} :
  RetN e X P w R (.returned (ndV T A c K d)) ((((((W.setCell ⟨b, 0, none⟩ u0).setCell ⟨b, 1, none⟩ u1).setCell ⟨b, 2, none⟩ u2).setCell ⟨b, 3, none⟩ u3).setCell ⟨b, 4, none⟩ u4).setCell ⟨b, 5, none⟩ u5) := by
 refine .inr ⟨T, l, A, c, K, d, hR, rfl, hP.blocks fun k hk => bx_off lq17, ?_, bx_kp hk hb⟩
 refine hF.move (fun k q => bx_off ?_) fun k q => ?_
 ·rcases q with q | ⟨q, _⟩
  ·have := (hO k q).2; omega
  ·omega
 ·rw [bx_size]
  rcases q with q | ⟨q1, q2, _⟩
  ·exact .inl q
  ·exact .inr ⟨by omega, q2, by omega⟩
theorem retBad {R : Rs Nd} {cc a : Int} (hk : Kp w.heap.size X w W) (hR : R = .bad cc a) : RetN e X P w R (.panicked [{ v := stopP cc a, recovered := false }]) W := .inl ⟨cc, a, hR, rfl, hk⟩
end
theorem kp_undrew {B X : Nat} {w w' : World} (h : Kp B X w.drew w') : Kp B X w w' := ⟨h.os, h.tape, h.output, h.size, h.block⟩
theorem below_undrew {B : Nat} {w w' : World} (h : Below B w.drew w') : Below B w w' := ⟨h.os, h.tape, h.output, h.size, h.block⟩
theorem ne_tail {α : Type} {x R : Rs α} (h : x = R) (hne : R ≠ .oof) : x ≠ .oof := by rw [h]; exact hne
theorem bl_drew {B : Nat} {w w' : World} (h : Below B w w') : Below B w w'.drew := h.trans ⟨rfl, rfl, rfl, Nat.le_refl _, fun _ _ => rfl⟩
theorem node_okA (k a : Int) (s : ByteArray) (K : Option Addr) (n d : Nat) (w : World) :
  Calls Tryz.prog 54 #[.int .i64 k, .int .i64 a, .string s, .slice K n d] w fun E w' => E = .returned (.agg #[.int .i64 k, .int .i64 a, .string s, .bool false, .slice none 0 0, .slice K n d]) ∧ Below w.heap.size w w' := by
 go_enter Tryz.func54, Tryz.ntmps54
 go_wp2_with fail
 refine bodyPost_ret (v := .agg #[.int .i64 k, .int .i64 a, .string s, .bool false, .slice none 0 0, .slice K n d]) (by simp [results, Tryz.results54, go_sem]) rfl ?_
 exact ⟨rfl, (Below.refl w.heap.size w).alloc (Nat.le_refl _) _⟩
theorem St.setx {P : Nat → Prop} {lo x x' h : Nat} {w : World} {T : Nd} {A K : Option Addr} {c d : Nat} (hs : St (Pt P lo x h) w T A c K d) (hx : h ≤ x') : St (Pt P lo x' h) w T A c K d := hs.mono fun k q => q.elim .inl fun ⟨a, b, _⟩ => .inr ⟨a, b, by omega⟩
theorem RowS.setx {P : Nat → Prop} {lo x x' : Nat} {w : World} {ks : List Nd} {A : Option Addr} {c : Nat} (hr : RowS P lo x w A c ks) (hx : w.heap.size ≤ x') : RowS P lo x' w A c ks := by
 obtain ⟨xs, h1, h2, h3⟩ := hr
 refine ⟨xs, h1, fun e => ?_, fun i t hi => ?_⟩
 ·have := (h1.lt _ e).2; omega
 ·obtain ⟨A', c', K', d', k1, k2⟩ := h3 i t hi; exact ⟨A', c', K', d', k1, k2.mono fun k q => ⟨q.1.elim .inl fun ⟨a, b, _⟩ => .inr ⟨a, b, by omega⟩, q.2⟩⟩
theorem St.put6 {P : Nat → Prop} {lo x b : Nat} {w : World} {T : Nd} {A K : Option Addr} {c d : Nat} {u0 u1 u2 u3 u4 u5 : Value} (hs : St (Pt P lo x w.heap.size) w T A c K d) (hb : b = x ∨ b < lo) (hp : ¬ P b) :
  St (Pt P lo x ((((((w.setCell ⟨b, 0, none⟩ u0).setCell ⟨b, 1, none⟩ u1).setCell ⟨b, 2, none⟩ u2).setCell ⟨b, 3, none⟩ u3).setCell ⟨b, 4, none⟩ u4).setCell ⟨b, 5, none⟩ u5).heap.size) ((((((w.setCell ⟨b, 0, none⟩ u0).setCell ⟨b, 1, none⟩ u1).setCell ⟨b, 2, none⟩ u2).setCell ⟨b, 3, none⟩ u3).setCell ⟨b, 4, none⟩ u4).setCell ⟨b, 5, none⟩ u5) T A c K d :=
 hs.move (fun k q => bx_off fun e => q.elim (fun q => hp (e ▸ q)) fun ⟨a, _, g⟩ => by omega) fun k q => by rw [bx_size]; exact q
theorem RowS.put6 {P : Nat → Prop} {lo x b : Nat} {w : World} {ks : List Nd} {A : Option Addr} {c : Nat} {u0 u1 u2 u3 u4 u5 : Value} (hr : RowS P lo x w A c ks) (hb : b = x ∨ b < lo) (hp : ¬ P b) :
  RowS P lo x ((((((w.setCell ⟨b, 0, none⟩ u0).setCell ⟨b, 1, none⟩ u1).setCell ⟨b, 2, none⟩ u2).setCell ⟨b, 3, none⟩ u3).setCell ⟨b, 4, none⟩ u4).setCell ⟨b, 5, none⟩ u5) A c ks :=
 hr.move (fun k q => bx_off fun e => q.elim (fun q => hp (e ▸ q)) fun ⟨a, _, g⟩ => by omega) (Nat.le_of_eq bx_size.symm)
theorem bx_off1 {w : World} {b i k : Nat} {u : Value} (hk : k ≠ b) : (w.setCell ⟨b, i, none⟩ u).heap[k]? = w.heap[k]? := Below.heap_setCell _ _ _ _ (fun e => hk (by simpa using e))
theorem St.put1 {P : Nat → Prop} {lo x b i : Nat} {w : World} {T : Nd} {A K : Option Addr} {c d : Nat} {u : Value} (hs : St (Pt P lo x w.heap.size) w T A c K d) (hb : b = x ∨ b < lo) (hp : ¬ P b) : St (Pt P lo x (w.setCell ⟨b, i, none⟩ u).heap.size) (w.setCell ⟨b, i, none⟩ u) T A c K d :=
 hs.move (fun k q => bx_off1 fun e => q.elim (fun q => hp (e ▸ q)) fun ⟨a, _, g⟩ => by omega) fun k q => by simpa [World.setCell] using q
theorem RowS.put1 {P : Nat → Prop} {lo x b i : Nat} {w : World} {ks : List Nd} {A : Option Addr} {c : Nat} {u : Value} (hr : RowS P lo x w A c ks) (hb : b = x ∨ b < lo) (hp : ¬ P b) : RowS P lo x (w.setCell ⟨b, i, none⟩ u) A c ks :=
 hr.move (fun k q => bx_off1 fun e => q.elim (fun q => hp (e ▸ q)) fun ⟨a, _, g⟩ => by omega) (by simp [World.setCell])
theorem bx_put5 {w : World} {b : Nat} {v0 v1 v2 v3 v4 v5 u : Value} {t : TypeId} (h : w.heap[b]? = some (.cells #[v0, v1, v2, v3, v4, v5] t)) : (w.setCell ⟨b, 5, none⟩ u).heap[b]? = some (.cells #[v0, v1, v2, v3, v4, u] t) := by
 simp [World.setCell, Array.getElem?_modify, h]
theorem none_okA (a : Int) (w : World) :
  Calls Tryz.prog 178 #[.int .i64 a] w fun E w' => E = .returned (.agg #[.int .i64 0, .int .i64 a, .string ⟨#[]⟩, .bool false, .slice none 0 0, .slice none 0 0]) ∧ Below w.heap.size w w' := none_ok a w
theorem target_is (T : Nd) (A : Option Addr) (c : Nat) (K : Option Addr) (d : Nat) (w : World) (hk : I64 T.kind) :
  Calls Tryz.prog 213 #[.agg #[.int .i64 T.kind, .int .i64 T.pos, .string T.text, .bool T.neg, .slice A T.mag.length c, .slice K T.kids.length d]] w fun E w' => E = .returned (.bool (isT T)) ∧ Below w.heap.size w w' := by
 have hb1 := (Below.refl w.heap.size w).alloc (Nat.le_refl _) (.cells #[.int .i64 T.kind, .int .i64 T.pos, .string T.text, .bool T.neg, .slice A T.mag.length c, .slice K T.kids.length d] 29)
 obtain ⟨k0, k1, k2, k3, k4, k5⟩ := bx_cells (heap_alloc_new w (.cells #[.int .i64 T.kind, .int .i64 T.pos, .string T.text, .bool T.neg, .slice A T.mag.length c, .slice K T.kids.length d] 29))
 obtain ⟨ka, kb⟩ := hk
 have hv : isT T = (T.kind == 31 || T.kind == 53 || T.kind == 54) := rfl
 rw [hv]
 cases h1 : (T.kind == 31) with
 | true =>
  exact lv72
 | false =>
  cases h2 : (T.kind == 53) with
  | true =>
   exact lv72
  | false =>
   cases h3 : (T.kind == 54) with
   | true =>
    exact lv72
   | false =>
    exact lv72
theorem target_ok (T : Nd) (A : Option Addr) (c : Nat) (K : Option Addr) (d : Nat) (w : World) (hk : I64 T.kind) :
  Calls Tryz.prog 181 #[.agg #[.int .i64 T.kind, .int .i64 T.pos, .string T.text, .bool T.neg, .slice A T.mag.length c, .slice K T.kids.length d]] w fun E w' =>
   ((isT T = true ∧ E = .returned (.agg #[.int .i64 T.kind, .int .i64 T.pos, .string T.text, .bool T.neg, .slice A T.mag.length c, .slice K T.kids.length d])) ∨ (isT T = false ∧ E = .panicked [{ v := stopP 108 T.pos, recovered := false }])) ∧ Below w.heap.size w w' := by
 have hb1 := (Below.refl w.heap.size w).alloc (Nat.le_refl _) (.cells #[.int .i64 T.kind, .int .i64 T.pos, .string T.text, .bool T.neg, .slice A T.mag.length c, .slice K T.kids.length d] 29)
 have hx1 := heap_alloc_new w (.cells #[.int .i64 T.kind, .int .i64 T.pos, .string T.text, .bool T.neg, .slice A T.mag.length c, .slice K T.kids.length d] 29)
 have hsz := Lh (show (w.alloc (.cells #[.int .i64 T.kind, .int .i64 T.pos, .string T.text, .bool T.neg, .slice A T.mag.length c, .slice K T.kids.length d] 29)).heap.size = w.heap.size + 1 by simp)
 go_enter Tryz.func181, Tryz.ntmps181
 go_upto_region 1 with fail
 generalize w.alloc (.cells #[.int .i64 T.kind, .int .i64 T.pos, .string T.text, .bool T.neg, .slice A T.mag.length c, .slice K T.kids.length d] 29) = w1 at *
 have hb2 := (Below.refl w1.heap.size w1).alloc (Nat.le_refl _) (.cells #[.int .i64 0, .int .i64 0, .string ⟨#[]⟩, .bool false, .slice none 0 0, .slice none 0 0] 29)
 have hy2 := heap_alloc_new w1 (.cells #[.int .i64 0, .int .i64 0, .string ⟨#[]⟩, .bool false, .slice none 0 0, .slice none 0 0] 29)
 rw [hsz.out] at hy2
 have hx2 := (hb2.5 w.heap.size (by rw [hsz.out]; omega)).trans hx1
 have hB2 := hb1.trans (hb2.mono (by rw [hsz.out]; omega))
 have hs2 : w.heap.size + 1 < (w1.alloc (.cells #[.int .i64 0, .int .i64 0, .string ⟨#[]⟩, .bool false, .slice none 0 0, .slice none 0 0] 29)).heap.size := by simp [hsz.out]
 generalize w1.alloc (.cells #[.int .i64 0, .int .i64 0, .string ⟨#[]⟩, .bool false, .slice none 0 0, .slice none 0 0] 29) = w2 at *
 obtain ⟨k0, k1, k2, k3, k4, k5⟩ := bx_cells hx2
 have HT := Lh (target_is T A c K d w2 hk)
 clear hb1 hb2 hx1 hsz
 go_wp2_with fail
 go_at_call 213
 refine HT.out.mono ?_
 rintro E w3 ⟨rfl, hb3⟩
 have hx3 := (hb3.5 w.heap.size lq17).trans hx2
 have hy3 := (hb3.5 (w.heap.size + 1) lq17).trans hy2
 obtain ⟨k0, k1, k2, k3, k4, k5⟩ := bx_cells hx3
 obtain ⟨m0, m1, m2, m3, m4, m5⟩ := bx_cells hy3
 have z := Lib.frozen_of_heap hy3
 have hB3 := hB2.trans (hb3.mono lq17)
 obtain ⟨r0, r1, r2, r3, r4, r5⟩ := bx_cells (bx_put hy3 (u0 := .int .i64 T.kind) (u1 := .int .i64 T.pos) (u2 := .string T.text) (u3 := .bool T.neg) (u4 := .slice A T.mag.length c) (u5 := .slice K T.kids.length d))
 clear hx2 hy2 hx3 hy3 HT
 cases hv : isT T with
 | true =>
  go_wp2_with fail
  refine bodyPost_ret (v := .agg #[.int .i64 T.kind, .int .i64 T.pos, .string T.text, .bool T.neg, .slice A T.mag.length c, .slice K T.kids.length d]) (by simp [results, Tryz.results181, go_sem, r0, r1, r2, r3, r4, r5]) rfl ?_
  exact ⟨.inl ⟨hv, rfl⟩, (((((hB3.setCell (p := ⟨_, 0, none⟩) lq18 _).setCell (p := ⟨_, 1, none⟩) lq18 _).setCell (p := ⟨_, 2, none⟩) lq18 _).setCell (p := ⟨_, 3, none⟩) lq18 _).setCell (p := ⟨_, 4, none⟩) lq18 _).setCell (p := ⟨_, 5, none⟩) lq18 _⟩
 | false =>
  go_wp2_with fail
  go_at_call 57
  refine (fail_ok 108 T.pos w3).mono ?_
  rintro E w4 ⟨rfl, hb4⟩; go_wp2_with fail; exact ⟨rfl, .inr ⟨hv, rfl⟩, hB3.trans (hb4.mono (by have := hb3.size; omega))⟩
def CN (e : Int) (f : FuncId) (q : List Tok → Rs Nd) : Prop := ∀ (X : Nat) (l : List Tok) (w : World), Pz e w X l → q l ≠ .oof → Calls Tryz.prog f #[.pointer (some ⟨X, 0, none⟩)] w (RetN e X Nn w (q l))
def CI (e : Int) (f : FuncId) (q : Int → List Tok → Rs Nd) : Prop := ∀ (a : Int) (X : Nat) (l : List Tok) (w : World), I64 a → Pz e w X l → q a l ≠ .oof → Calls Tryz.prog f #[.pointer (some ⟨X, 0, none⟩), .int .i64 a] w (RetN e X Nn w (q a l))
def CLN (e : Int) (f : FuncId) (q : List Nd → List Tok → Rs (List Nd)) : Prop := ∀ (P : Nat → Prop) (X : Nat) (T : Nd) (A : Option Addr) (c : Nat) (K : Option Addr) (d : Nat) (l : List Tok) (w : World), Old P X w.heap.size → St P w T A c K d → Pz e w X l → q [T] l ≠ .oof → Calls Tryz.prog f #[.pointer (some ⟨X, 0, none⟩), ndV T A c K d] w (RetL e X P w (q [T] l))
def CNN (e : Int) (f : FuncId) (q : Nd → List Tok → Rs Nd) : Prop := ∀ (P : Nat → Prop) (X : Nat) (T : Nd) (A : Option Addr) (c : Nat) (K : Option Addr) (d : Nat) (l : List Tok) (w : World), Old P X w.heap.size → St P w T A c K d → Pz e w X l → q T l ≠ .oof → Calls Tryz.prog f #[.pointer (some ⟨X, 0, none⟩), ndV T A c K d] w (RetN e X P w (q T l))
def RetK (e : Int) (X : Nat) (P : Nat → Prop) (w : World) (f : List Nd → Nd) (R : Rs (List Nd)) (E : Ending) (w' : World) : Prop :=
 (∃ c a, R = .bad c a ∧ E = .panicked [{ v := stopP c a, recovered := false }] ∧ Kp w.heap.size X w w') ∨
 ∃ ks l T A c K d, R = .ok ks l ∧ T = f ks ∧ E = .returned (ndV T A c K d) ∧ Pz e w' X l ∧ St (Pt P w.heap.size X w'.heap.size) w' T A c K d ∧ Kp w.heap.size X w w'
def CCN (e : Int) (q : Nd → List Tok → Rs (List Nd)) : Prop := ∀ (P : Nat → Prop) (kind a : Int) (X : Nat) (T : Nd) (A : Option Addr) (c : Nat) (K : Option Addr) (d : Nat) (l : List Tok) (w : World), I64 kind → I64 a → Old P X w.heap.size → St P w T A c K d → Pz e w X l → q T l ≠ .oof →
 Calls Tryz.prog 318 #[.pointer (some ⟨X, 0, none⟩), .int .i64 kind, .int .i64 a, ndV T A c K d] w (RetK e X P w (fun ks => Nd.mk kind a ⟨#[]⟩ false [] ks) (q T l))
structure PA (e : Int) (p : Ps) : Prop where
 pexpr : CN e 100 p.qexpr
 por : CN e 179 p.qor
 pand : CN e 242 p.qand
 pnot : CN e 283 p.qnot
 pcompare : CN e 314 p.qcompare
 pbits : CN e 328 (p.qrow 4)
 pxor : CN e 334 (p.qrow 3)
 pboth : CN e 337 (p.qrow 2)
 psum : CN e 338 (p.qrow 1)
 pterm : CN e 339 (p.qrow 0)
 pminus : CN e 340 p.qminus
 ppostfix : CN e 180 p.qpostfix
 pexprs : CN e 104 p.qexprs
 patom : CN e 243 p.qatom
 pround : CI e 285 p.qround
 psquare : CI e 286 p.qsquare
 pcurly : CI e 287 p.qcurly
 pitem : CN e 320 p.qitem
 ptargets : CN e 102 p.qtargets
 passign : CI e 188 p.qassign
 psimple : CI e 108 p.qsimple
 pblock : CN e 101 p.qblock
 pchoice : CI e 99 p.qchoice
 pargs : ∀ (X : Nat) (l : List Tok) (w : World), Pz e w X l → p.qargs 0 [] l ≠ .oof → Calls Tryz.prog 244 #[.pointer (some ⟨X, 0, none⟩)] w (RetL e X Nn w (p.qargs 0 [] l))
 pparams : ∀ (X : Nat) (l : List Tok) (w : World), Pz e w X l → p.qparams false [] l ≠ .oof → Calls Tryz.prog 185 #[.pointer (some ⟨X, 0, none⟩)] w (RetL e X Nn w (p.qparams false [] l))
 pnames : ∀ (kind a : Int) (X : Nat) (l : List Tok) (w : World), I64 kind → I64 a → Pz e w X l → p.qnames [] l ≠ .oof → Calls Tryz.prog 187 #[.pointer (some ⟨X, 0, none⟩), .int .i64 kind, .int .i64 a] w (RetK e X Nn w (fun ks => Nd.mk kind a ⟨#[]⟩ false [] ks) (p.qnames [] l))
 prest : CLN e 183 p.qrest
 pitems : CLN e 319 p.qitems
 pcomp : CCN e p.qcomp
 ppair : CNN e 321 p.qpair
 pstmt : CN e 56 p.qstmt
theorem bp {w : World} {b : Nat} {v0 v1 v2 v3 v4 v5 : Value} {t : TypeId} (h : w.heap[b]? = some (.cells #[v0, v1, v2, v3, v4, v5] t)) (u0 u1 u2 u3 u4 u5 : Value) : ((((((w.setCell ⟨b, 0, none⟩ u0).setCell ⟨b, 1, none⟩ u1).setCell ⟨b, 2, none⟩ u2).setCell ⟨b, 3, none⟩ u3).setCell ⟨b, 4, none⟩ u4).setCell ⟨b, 5, none⟩ u5).cell? ⟨b, 0, none⟩ = some u0 ∧ ((((((w.setCell ⟨b, 0, none⟩ u0).setCell ⟨b, 1, none⟩ u1).setCell ⟨b, 2, none⟩ u2).setCell ⟨b, 3, none⟩ u3).setCell ⟨b, 4, none⟩ u4).setCell ⟨b, 5, none⟩ u5).cell? ⟨b, 1, none⟩ = some u1 ∧ ((((((w.setCell ⟨b, 0, none⟩ u0).setCell ⟨b, 1, none⟩ u1).setCell ⟨b, 2, none⟩ u2).setCell ⟨b, 3, none⟩ u3).setCell ⟨b, 4, none⟩ u4).setCell ⟨b, 5, none⟩ u5).cell? ⟨b, 2, none⟩ = some u2 ∧ ((((((w.setCell ⟨b, 0, none⟩ u0).setCell ⟨b, 1, none⟩ u1).setCell ⟨b, 2, none⟩ u2).setCell ⟨b, 3, none⟩ u3).setCell ⟨b, 4, none⟩ u4).setCell ⟨b, 5, none⟩ u5).cell? ⟨b, 3, none⟩ = some u3 ∧ ((((((w.setCell ⟨b, 0, none⟩ u0).setCell ⟨b, 1, none⟩ u1).setCell ⟨b, 2, none⟩ u2).setCell ⟨b, 3, none⟩ u3).setCell ⟨b, 4, none⟩ u4).setCell ⟨b, 5, none⟩ u5).cell? ⟨b, 4, none⟩ = some u4 ∧ ((((((w.setCell ⟨b, 0, none⟩ u0).setCell ⟨b, 1, none⟩ u1).setCell ⟨b, 2, none⟩ u2).setCell ⟨b, 3, none⟩ u3).setCell ⟨b, 4, none⟩ u4).setCell ⟨b, 5, none⟩ u5).cell? ⟨b, 5, none⟩ = some u5 := bx_cells (bx_put h (u0 := u0) (u1 := u1) (u2 := u2) (u3 := u3) (u4 := u4) (u5 := u5))
abbrev zN : Obj := .cells #[.int .i64 0, .int .i64 0, .string ⟨#[]⟩, .bool false, .slice none 0 0, .slice none 0 0] 29
abbrev oN (T : Nd) (A : Option Addr) (c : Nat) (K : Option Addr) (d : Nat) : Obj := .cells #[.int .i64 T.kind, .int .i64 T.pos, .string T.text, .bool T.neg, .slice A T.mag.length c, .slice K T.kids.length d] 29
theorem yO {α β : Type} (a : α) (l : List Tok) (f : α → List Tok → Rs β) : (Rs.ok a l).bind f = f a l := rfl
theorem yA {α β γ : Type} (x : Rs α) (f : α → List Tok → Rs β) (g : β → List Tok → Rs γ) : (x.bind f).bind g = x.bind fun a l => (f a l).bind g := Rs.bind_assoc x f g
theorem yF : (false = true) = False := by simp

end
end Go.Proofs.YtjndbcnmmnkilaaGreatDoor
