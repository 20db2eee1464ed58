/- Joined by a program: Pf2. -/
import Derived.Test.YtjndbcnmmnkilaaGreatDoorPF27
namespace Go.Proofs.YtjndbcnmmnkilaaGreatDoor
set_option linter.unusedVariables false
set_option linter.unusedSimpArgs false
set_option maxRecDepth 1000000
set_option maxHeartbeats 16000000
section
open Go.RowKit
open List (length_append length_cons length_nil length_singleton)
def endAt (l : List Tok) : Int := match l.getLast? with
 | none => 0
 | some t => t.pos
section
variable {wB nB gB : ByteArray → Bool} {nO : ByteArray → Option (List Int)} {e : Int}
def parseF (nB gB : ByteArray → Bool) (nO : ByteArray → Option (List Int)) (D : Nat) (l : List Tok) : Rs Nd :=
 (modQ (Pp nB gB nO (endAt l) D) l).bind fun T r => match deepQ 0 T with
  | some a => .bad 107 a
  | none => .ok T r
def RetPz (w : World) (R : Rs Nd) (E : Ending) (w' : World) : Prop :=
 (∃ c a, R = .bad c a ∧ E = .returned (.tuple #[.agg #[.int .i64 0, .int .i64 0, .string ⟨#[]⟩, .bool false, .slice none 0 0, .slice none 0 0], .agg #[.int .i64 c, .int .i64 a]]) ∧ Below w.heap.size w w') ∨
 ∃ T r A c K d, R = .ok T r ∧ E = .returned (.tuple #[ndV T A c K d, .agg #[.int .i64 0, .int .i64 0]]) ∧ St (Pt Nn w.heap.size w.heap.size w'.heap.size) w' T A c K d ∧ Below w.heap.size w w'
theorem pz_new {w W : World} {X : Nat} {A : Option Addr} {C : Nat} {l : List Tok} {t : TypeId} (hX : W.heap[X]? = some (.cells #[.slice A l.length C, .int .i64 9, .string ⟨#[]⟩, .int .i64 e] t)) (hwX : w.heap.size ≤ X) (hW : ∀ k, k < w.heap.size → W.heap[k]? = w.heap[k]?)
  (hT : TksAt w w.heap.size A l) (hle : l.length ≤ C) (hC2 : C ≤ maxLen) (hok : ∀ t ∈ l, OkT t) (hln : l.length ≤ 1000000) (he : I64 e) (htb : ∀ V : World, (∀ k, k < w.heap.size → V.heap[k]? = w.heap[k]?) → Lib.Utf8Tabs 0 1 V) : Pz e W X l :=
 ⟨A, C, ⟨cell_of_row _ _ 0 _ _ _ hX, cell_of_row _ _ 1 _ _ _ hX, cell_of_row _ _ 2 _ _ _ hX, cell_of_row _ _ 3 _ _ _ hX, Lib.frozen_of_heap hX 0, fun i t hi => by
  obtain ⟨b, off, e, hb, h1, h2, h3⟩ := hT i t hi; have hk := hW b hb
  exact ⟨b, off, e, by omega, (World.cell?_of_block hk).trans h1, (World.cell?_of_block hk).trans h2, (World.cell?_of_block hk).trans h3⟩, hle, hC2, hok, he, hln, fun V hV => htb V fun k hk => (hV k lq17).trans (hW k hk)⟩⟩
theorem parse_ok (hD : Deps wB nB gB nO) (hC : Cst wB) (D : Nat) (l : List Tok) (A : Option Addr) (C : Nat) (w : World) (hT : TksAt w w.heap.size A l) (hle : l.length ≤ C) (hC2 : C ≤ maxLen) (hok : ∀ t ∈ l, OkT t) (hln : l.length ≤ 1000000)
  (htb : ∀ V : World, (∀ k, k < w.heap.size → V.heap[k]? = w.heap[k]?) → Lib.Utf8Tabs 0 1 V) (hne : modQ (Pp nB gB nO (endAt l) D) l ≠ .oof) :
  Calls Tryz.prog 14 #[.slice A l.length C] w (RetPz w (parseF nB gB nO D l)) := by
 have hmf : ∀ (fn : Fn) (first cap : Array Value) (w : World), (Instr.makeFunc fn first cap).run Tryz.prog w = .ok (.func fn first cap) w := fun _ _ _ _ => rfl
 obtain ⟨R, hR⟩ : ∃ R, parseF nB gB nO D l = R := ⟨_, rfl⟩
 rw [hR]
 unfold parseF at hR
 have hCm := hC2
 unfold maxLen at hC2
 obtain ⟨e, he⟩ : ∃ e, endAt l = e := ⟨_, rfl⟩
 rw [he] at hR hne
 obtain ⟨W2, hW2⟩ : ∃ W2, (w.alloc (.cells #[.int .i64 0, .int .i64 0, .string ⟨#[]⟩, .bool false, .slice none 0 0, .slice none 0 0] 29)).alloc (.cells #[.int .i64 0, .int .i64 0] 31) = W2 := ⟨_, rfl⟩
 have hb2 : Below w.heap.size w W2 := by rw [← hW2]; exact ((Below.refl _ _).alloc (Nat.le_refl _) _).alloc lq18 _
 have hsz2 : W2.heap.size = w.heap.size + 2 := by rw [← hW2]; simp
 have hn2 : W2.heap[w.heap.size]? = some (.cells #[.int .i64 0, .int .i64 0, .string ⟨#[]⟩, .bool false, .slice none 0 0, .slice none 0 0] 29) := by rw [← hW2, heap_alloc_old _ _ lq18]; exact heap_alloc_new _ _
 have hf2 : W2.heap[w.heap.size + 1]? = some (.cells #[.int .i64 0, .int .i64 0] 31) := by
  exact lv38
 by_cases h0 : l = []
 ·subst h0; have he0 : e = 0 := he.symm; subst he0; go_enter_defers Tryz.func14, Tryz.ntmps14; go_wp2_with fail; have hX3 : (W2.alloc (.cells #[.slice A 0 C, .int .i64 9, .string ⟨#[]⟩, .int .i64 0] 58)).heap[w.heap.size + 2]? = some (.cells #[.slice A 0 C, .int .i64 9, .string ⟨#[]⟩, .int .i64 0] 58) := by rw [← hsz2]; exact heap_alloc_new _ _
  have hb3 := (Below.refl W2.heap.size W2).alloc (Nat.le_refl _) (.cells #[.slice A 0 C, .int .i64 9, .string ⟨#[]⟩, .int .i64 0] 58)
  generalize W2.alloc (.cells #[.slice A 0 C, .int .i64 9, .string ⟨#[]⟩, .int .i64 0] 58) = W3 at *
  have hP3 : Pz 0 W3 (w.heap.size + 2) [] := pz_new (w := w) hX3 lq17 (fun k hk => (hb3.5 k lq17).trans (hb2.5 k hk)) hT hle hCm hok hln ⟨by decide, by decide⟩ htb; clear hX3; have hsz3 : W2.heap.size < W3.heap.size := by have := hP3.lt; omega
  have hbw3 := hb2.trans (hb3.mono lq17); have hn3 := (hb3.5 w.heap.size lq17).trans hn2; have hf3 := (hb3.5 (w.heap.size + 1) lq17).trans hf2; clear hn2 hf2 hb3
  refine (pModule_ok hD hC D (pa_le hD hC D) (w.heap.size + 2) _ W3 hP3 hne).mono ?_
  intro E w4 hE
  rcases hE with ⟨cc, aa, hv, rfl, hq⟩ | ⟨T, l1, A1, c1, K1, d1, hv, rfl, hP4, hF4, hq⟩
  ·dsimp only at hv
   rw [hv] at hR; have hn4 := (hq.block w.heap.size lq17 lq17).trans hn3; have hf4 := (hq.block (w.heap.size + 1) lq17 lq17).trans hf3; have hbw := hbw3.trans ((hq.to_below (B' := w.heap.size) lq17 (.inr lq17))); have hs4 := hq.size
   show Leaves Tryz.prog _ _ _ _ (.panicking _) w4
   exact lv21
  dsimp only at hv
  rw [hv] at hR; simp only [Rs.bind_ok] at hR; clear hv hne; have hn4 := (hq.block w.heap.size lq17 lq17).trans hn3; have hf4 := (hq.block (w.heap.size + 1) lq17 lq17).trans hf3; have hbw := hbw3.trans ((hq.to_below (B' := w.heap.size) lq17 (.inr lq17))); have hs4 := hq.size; clear hn3 hf3 hbw3 hq hP3 hP4; unfold ndV; obtain ⟨k0, k1, k2, k3, k4, k5⟩ := bx_cells hn4; have z := Lib.frozen_of_heap hn4; obtain ⟨q0, q1, q2, q3, q4, q5⟩ := bp hn4 (.int .i64 T.kind) (.int .i64 T.pos) (.string T.text) (.bool T.neg) (.slice A1 T.mag.length c1) (.slice K1 T.kids.length d1)
  go_upto_region 6 with fail
  clear k0 k1 k2 k3 k4 k5 z; have hn5 := bx_put hn4 (u0 := .int .i64 T.kind) (u1 := .int .i64 T.pos) (u2 := .string T.text) (u3 := .bool T.neg) (u4 := .slice A1 T.mag.length c1) (u5 := .slice K1 T.kids.length d1); have hf5 := (bx_off (w := w4) (b := w.heap.size) (u0 := .int .i64 T.kind) (u1 := .int .i64 T.pos) (u2 := .string T.text) (u3 := .bool T.neg) (u4 := .slice A1 T.mag.length c1) (u5 := .slice K1 T.kids.length d1) (by omega : w.heap.size + 1 ≠ w.heap.size)).trans hf4
  have hF5 : St (Pt Nn (w.heap.size + 2) w.heap.size ((((((w4.setCell ⟨w.heap.size, 0, none⟩ (.int .i64 T.kind)).setCell ⟨w.heap.size, 1, none⟩ (.int .i64 T.pos)).setCell ⟨w.heap.size, 2, none⟩ (.string T.text)).setCell ⟨w.heap.size, 3, none⟩ (.bool T.neg)).setCell ⟨w.heap.size, 4, none⟩ (.slice A1 T.mag.length c1)).setCell ⟨w.heap.size, 5, none⟩ (.slice K1 T.kids.length d1)).heap.size) ((((((w4.setCell ⟨w.heap.size, 0, none⟩ (.int .i64 T.kind)).setCell ⟨w.heap.size, 1, none⟩ (.int .i64 T.pos)).setCell ⟨w.heap.size, 2, none⟩ (.string T.text)).setCell ⟨w.heap.size, 3, none⟩ (.bool T.neg)).setCell ⟨w.heap.size, 4, none⟩ (.slice A1 T.mag.length c1)).setCell ⟨w.heap.size, 5, none⟩ (.slice K1 T.kids.length d1)) T A1 c1 K1 d1 := (hF4.into (P := Nn) (lo := w.heap.size + 2) (x := w.heap.size) (fun _ h => h.elim) lq17 lq17).put6 (.inl rfl) (fun h => h)
  have hbw5 : Below w.heap.size w ((((((w4.setCell ⟨w.heap.size, 0, none⟩ (.int .i64 T.kind)).setCell ⟨w.heap.size, 1, none⟩ (.int .i64 T.pos)).setCell ⟨w.heap.size, 2, none⟩ (.string T.text)).setCell ⟨w.heap.size, 3, none⟩ (.bool T.neg)).setCell ⟨w.heap.size, 4, none⟩ (.slice A1 T.mag.length c1)).setCell ⟨w.heap.size, 5, none⟩ (.slice K1 T.kids.length d1)) := (((((hbw.setCell (p := ⟨w.heap.size, 0, none⟩) (Nat.le_refl _) _).setCell (p := ⟨w.heap.size, 1, none⟩) (Nat.le_refl _) _).setCell (p := ⟨w.heap.size, 2, none⟩) (Nat.le_refl _) _).setCell (p := ⟨w.heap.size, 3, none⟩) (Nat.le_refl _) _).setCell (p := ⟨w.heap.size, 4, none⟩) (Nat.le_refl _) _).setCell (p := ⟨w.heap.size, 5, none⟩) (Nat.le_refl _) _
  have hs5 : ((((((w4.setCell ⟨w.heap.size, 0, none⟩ (.int .i64 T.kind)).setCell ⟨w.heap.size, 1, none⟩ (.int .i64 T.pos)).setCell ⟨w.heap.size, 2, none⟩ (.string T.text)).setCell ⟨w.heap.size, 3, none⟩ (.bool T.neg)).setCell ⟨w.heap.size, 4, none⟩ (.slice A1 T.mag.length c1)).setCell ⟨w.heap.size, 5, none⟩ (.slice K1 T.kids.length d1)).heap.size = w4.heap.size := bx_size
  generalize ((((((w4.setCell ⟨w.heap.size, 0, none⟩ (.int .i64 T.kind)).setCell ⟨w.heap.size, 1, none⟩ (.int .i64 T.pos)).setCell ⟨w.heap.size, 2, none⟩ (.string T.text)).setCell ⟨w.heap.size, 3, none⟩ (.bool T.neg)).setCell ⟨w.heap.size, 4, none⟩ (.slice A1 T.mag.length c1)).setCell ⟨w.heap.size, 5, none⟩ (.slice K1 T.kids.length d1)) = w5 at *
  clear hn4 hf4 hF4 hbw; have hN5 := hF5.now; go_wp2_with fail
  go_at_call 31
  refine (deep_ok T 0 A1 c1 K1 d1 w5 lq16 lq16 hN5).mono ?_
  rintro E w6 ⟨hE, hq⟩; have hn6 := (hq.5 w.heap.size lq17).trans hn5; have hf6 := (hq.5 (w.heap.size + 1) lq17).trans hf5; have hbw6 := hbw5.trans (hq.mono lq17); have hF6 := hF5.later (X := w.heap.size) hq (Old.nn _ _); have hs6 := hq.size; clear hn5 hf5 hbw5 hq hN5 hF5 q0 q1 q2 q3 q4 q5
  rcases hE with ⟨a, ha, rfl⟩ | ⟨ha, rfl⟩
  ·rw [ha] at hR
   show Leaves Tryz.prog _ _ _ _ (.panicking _) w6
   exact lv20
  rw [ha] at hR; clear ha; have HE := Lh (show _ ∧ _ ∧ _ ∧ _ from ⟨hn6, hf6, hbw6, hF6⟩); obtain ⟨k0, k1, k2, k3, k4, k5⟩ := bx_cells hn6; have z := Lib.frozen_of_heap hn6; obtain ⟨g0, g1⟩ := bx_two2 hf6; have z1 := Lib.frozen_of_heap hf6; clear hn6 hf6 hbw6 hF6; go_wp2_with fail; clear k0 k1 k2 k3 k4 k5 z g0 g1 z1; obtain ⟨hn6, hf6, hbw6, hF6⟩ := HE.out
  have kn := (bx_off2 (w := ((((((w6.setCell ⟨w.heap.size, 0, none⟩ (.int .i64 T.kind)).setCell ⟨w.heap.size, 1, none⟩ (.int .i64 T.pos)).setCell ⟨w.heap.size, 2, none⟩ (.string T.text)).setCell ⟨w.heap.size, 3, none⟩ (.bool T.neg)).setCell ⟨w.heap.size, 4, none⟩ (.slice A1 T.mag.length c1)).setCell ⟨w.heap.size, 5, none⟩ (.slice K1 T.kids.length d1))) (b := w.heap.size + 1) (u0 := .int .i64 0) (u1 := .int .i64 0) (by omega : w.heap.size ≠ w.heap.size + 1)).trans (bx_put hn6 (u0 := .int .i64 T.kind) (u1 := .int .i64 T.pos) (u2 := .string T.text) (u3 := .bool T.neg) (u4 := .slice A1 T.mag.length c1) (u5 := .slice K1 T.kids.length d1))
  have kf := bx_put02 (u0 := .int .i64 0) (u1 := .int .i64 0) ((bx_off (w := w6) (b := w.heap.size) (u0 := .int .i64 T.kind) (u1 := .int .i64 T.pos) (u2 := .string T.text) (u3 := .bool T.neg) (u4 := .slice A1 T.mag.length c1) (u5 := .slice K1 T.kids.length d1) (by omega : w.heap.size + 1 ≠ w.heap.size)).trans hf6)
  have kF := ((hF6.put6 (b := w.heap.size) (u0 := .int .i64 T.kind) (u1 := .int .i64 T.pos) (u2 := .string T.text) (u3 := .bool T.neg) (u4 := .slice A1 T.mag.length c1) (u5 := .slice K1 T.kids.length d1) (.inl rfl) (fun h => h)).put1 (b := w.heap.size + 1) (i := 0) (u := .int .i64 0) (.inr lq17) (fun h => h)).put1 (b := w.heap.size + 1) (i := 1) (u := .int .i64 0) (.inr lq17) (fun h => h); have kF := kF.into (P := Nn) (lo := w.heap.size) (x := w.heap.size) (fun _ h => h.elim) lq17 lq17
  have kB := (((((((hbw6.setCell (p := ⟨w.heap.size, 0, none⟩) (Nat.le_refl _) (.int .i64 T.kind)).setCell (p := ⟨w.heap.size, 1, none⟩) (Nat.le_refl _) (.int .i64 T.pos)).setCell (p := ⟨w.heap.size, 2, none⟩) (Nat.le_refl _) (.string T.text)).setCell (p := ⟨w.heap.size, 3, none⟩) (Nat.le_refl _) (.bool T.neg)).setCell (p := ⟨w.heap.size, 4, none⟩) (Nat.le_refl _) (.slice A1 T.mag.length c1)).setCell (p := ⟨w.heap.size, 5, none⟩) (Nat.le_refl _) (.slice K1 T.kids.length d1)).setCell (p := ⟨w.heap.size + 1, 0, none⟩) (Nat.le_succ _) (.int .i64 0)).setCell (p := ⟨w.heap.size + 1, 1, none⟩) (Nat.le_succ _) (.int .i64 0)
  generalize ((((((((w6.setCell ⟨w.heap.size, 0, none⟩ (.int .i64 T.kind)).setCell ⟨w.heap.size, 1, none⟩ (.int .i64 T.pos)).setCell ⟨w.heap.size, 2, none⟩ (.string T.text)).setCell ⟨w.heap.size, 3, none⟩ (.bool T.neg)).setCell ⟨w.heap.size, 4, none⟩ (.slice A1 T.mag.length c1)).setCell ⟨w.heap.size, 5, none⟩ (.slice K1 T.kids.length d1)).setCell ⟨w.heap.size + 1, 0, none⟩ (.int .i64 0)).setCell ⟨w.heap.size + 1, 1, none⟩ (.int .i64 0)) = w7 at *
  obtain ⟨r0, r1, r2, r3, r4, r5⟩ := bx_cells kn; obtain ⟨g0, g1⟩ := bx_two2 kf
  show Leaves Tryz.prog _ _ _ _ .returning w7
  exact lv26
 ·have hl0 : 0 < l.length := List.length_pos_iff.2 h0; obtain ⟨t, hlast⟩ : ∃ t, l[l.length - 1]? = some t := ⟨_, gEo⟩; have het : t.pos = e := by rw [← he]; unfold endAt; rw [List.getLast?_eq_getElem?, hlast]
  have he64 : I64 e := het ▸ (hok t (mog hlast)).2.1; obtain ⟨tb, off, rfl, htb2, t0, t1, t2⟩ := hT _ t hlast; rw [het] at t2; have i1 : (0 : Int) < (l.length : Int) := by omega
  have i2 : (l.length : Int) - 1 < (l.length : Int) := by omega
  have i3 : 0 ≤ (l.length : Int) - 1 := by omega
  have i4 : ((l.length : Int) - 1).toNat = l.length - 1 := by omega
  go_enter_defers Tryz.func14, Tryz.ntmps14
  go_upto_region 3 with fail
  have hb3 := (Below.refl W2.heap.size W2).alloc (Nat.le_refl _) (.cells #[.slice (some ⟨tb, off, none⟩) l.length C, .int .i64 9, .string ⟨#[]⟩, .int .i64 0] 58); have hx3 := heap_alloc_new W2 (.cells #[.slice (some ⟨tb, off, none⟩) l.length C, .int .i64 9, .string ⟨#[]⟩, .int .i64 0] 58); have u2 := (hb3.cell (p := ⟨tb, off + (l.length - 1) * 3 + 2, none⟩) (by show tb < _; omega)).trans ((hb2.cell (p := ⟨tb, off + (l.length - 1) * 3 + 2, none⟩) (by show tb < _; omega)).trans t2)
  generalize W2.alloc (.cells #[.slice (some ⟨tb, off, none⟩) l.length C, .int .i64 9, .string ⟨#[]⟩, .int .i64 0] 58) = W3 at *
  rw [hsz2] at hx3; have q3 := cell_of_row _ _ 3 _ _ _ hx3; have z := Lib.frozen_of_heap hx3; have hs3 := hb3.size
  go_upto_region 5 with fail
  have hb4 : Below W2.heap.size W2 (W3.setCell ⟨w.heap.size + 2, 3, none⟩ (.int .i64 e)) := hb3.setCell (p := ⟨w.heap.size + 2, 3, none⟩) (by show W2.heap.size ≤ w.heap.size + 2; omega) _; have hX3 : (W3.setCell ⟨w.heap.size + 2, 3, none⟩ (.int .i64 e)).heap[w.heap.size + 2]? = some (.cells #[.slice (some ⟨tb, off, none⟩) l.length C, .int .i64 9, .string ⟨#[]⟩, .int .i64 e] 58) := by simp [World.setCell, Array.getElem?_modify, hx3]
  clear q3 z hx3 u2 hb3 hs3
  generalize W3.setCell ⟨w.heap.size + 2, 3, none⟩ (.int .i64 e) = W4 at *
  clear W3; have hb3 := hb4; have hP3 : Pz e W4 (w.heap.size + 2) l := pz_new (w := w) hX3 lq17 (fun k hk => (hb3.5 k lq17).trans (hb2.5 k hk)) hT hle hCm hok hln he64 htb; clear hX3 t0 t1 t2 i1 i2 i3 i4; go_wp2_with fail; have hsz3 : W2.heap.size < W4.heap.size := by have := hP3.lt; omega
  have hbw3 := hb2.trans (hb3.mono lq17); have hn3 := (hb3.5 w.heap.size lq17).trans hn2; have hf3 := (hb3.5 (w.heap.size + 1) lq17).trans hf2; clear hn2 hf2 hb3
  refine (pModule_ok hD hC D (pa_le hD hC D) (w.heap.size + 2) _ W4 hP3 hne).mono ?_
  intro E w4 hE
  rcases hE with ⟨cc, aa, hv, rfl, hq⟩ | ⟨T, l1, A1, c1, K1, d1, hv, rfl, hP4, hF4, hq⟩
  ·dsimp only at hv
   rw [hv] at hR; have hn4 := (hq.block w.heap.size lq17 lq17).trans hn3; have hf4 := (hq.block (w.heap.size + 1) lq17 lq17).trans hf3; have hbw := hbw3.trans ((hq.to_below (B' := w.heap.size) lq17 (.inr lq17))); have hs4 := hq.size
   show Leaves Tryz.prog _ _ _ _ (.panicking _) w4
   exact lv21
  dsimp only at hv
  rw [hv] at hR; simp only [Rs.bind_ok] at hR; clear hv hne; have hn4 := (hq.block w.heap.size lq17 lq17).trans hn3; have hf4 := (hq.block (w.heap.size + 1) lq17 lq17).trans hf3; have hbw := hbw3.trans ((hq.to_below (B' := w.heap.size) lq17 (.inr lq17))); have hs4 := hq.size; clear hn3 hf3 hbw3 hq hP3 hP4; unfold ndV; obtain ⟨k0, k1, k2, k3, k4, k5⟩ := bx_cells hn4; have z := Lib.frozen_of_heap hn4; obtain ⟨q0, q1, q2, q3, q4, q5⟩ := bp hn4 (.int .i64 T.kind) (.int .i64 T.pos) (.string T.text) (.bool T.neg) (.slice A1 T.mag.length c1) (.slice K1 T.kids.length d1)
  go_upto_region 6 with fail
  clear k0 k1 k2 k3 k4 k5 z; have hn5 := bx_put hn4 (u0 := .int .i64 T.kind) (u1 := .int .i64 T.pos) (u2 := .string T.text) (u3 := .bool T.neg) (u4 := .slice A1 T.mag.length c1) (u5 := .slice K1 T.kids.length d1); have hf5 := (bx_off (w := w4) (b := w.heap.size) (u0 := .int .i64 T.kind) (u1 := .int .i64 T.pos) (u2 := .string T.text) (u3 := .bool T.neg) (u4 := .slice A1 T.mag.length c1) (u5 := .slice K1 T.kids.length d1) (by omega : w.heap.size + 1 ≠ w.heap.size)).trans hf4
  have hF5 : St (Pt Nn (w.heap.size + 2) w.heap.size ((((((w4.setCell ⟨w.heap.size, 0, none⟩ (.int .i64 T.kind)).setCell ⟨w.heap.size, 1, none⟩ (.int .i64 T.pos)).setCell ⟨w.heap.size, 2, none⟩ (.string T.text)).setCell ⟨w.heap.size, 3, none⟩ (.bool T.neg)).setCell ⟨w.heap.size, 4, none⟩ (.slice A1 T.mag.length c1)).setCell ⟨w.heap.size, 5, none⟩ (.slice K1 T.kids.length d1)).heap.size) ((((((w4.setCell ⟨w.heap.size, 0, none⟩ (.int .i64 T.kind)).setCell ⟨w.heap.size, 1, none⟩ (.int .i64 T.pos)).setCell ⟨w.heap.size, 2, none⟩ (.string T.text)).setCell ⟨w.heap.size, 3, none⟩ (.bool T.neg)).setCell ⟨w.heap.size, 4, none⟩ (.slice A1 T.mag.length c1)).setCell ⟨w.heap.size, 5, none⟩ (.slice K1 T.kids.length d1)) T A1 c1 K1 d1 := (hF4.into (P := Nn) (lo := w.heap.size + 2) (x := w.heap.size) (fun _ h => h.elim) lq17 lq17).put6 (.inl rfl) (fun h => h)
  have hbw5 : Below w.heap.size w ((((((w4.setCell ⟨w.heap.size, 0, none⟩ (.int .i64 T.kind)).setCell ⟨w.heap.size, 1, none⟩ (.int .i64 T.pos)).setCell ⟨w.heap.size, 2, none⟩ (.string T.text)).setCell ⟨w.heap.size, 3, none⟩ (.bool T.neg)).setCell ⟨w.heap.size, 4, none⟩ (.slice A1 T.mag.length c1)).setCell ⟨w.heap.size, 5, none⟩ (.slice K1 T.kids.length d1)) := (((((hbw.setCell (p := ⟨w.heap.size, 0, none⟩) (Nat.le_refl _) _).setCell (p := ⟨w.heap.size, 1, none⟩) (Nat.le_refl _) _).setCell (p := ⟨w.heap.size, 2, none⟩) (Nat.le_refl _) _).setCell (p := ⟨w.heap.size, 3, none⟩) (Nat.le_refl _) _).setCell (p := ⟨w.heap.size, 4, none⟩) (Nat.le_refl _) _).setCell (p := ⟨w.heap.size, 5, none⟩) (Nat.le_refl _) _
  have hs5 : ((((((w4.setCell ⟨w.heap.size, 0, none⟩ (.int .i64 T.kind)).setCell ⟨w.heap.size, 1, none⟩ (.int .i64 T.pos)).setCell ⟨w.heap.size, 2, none⟩ (.string T.text)).setCell ⟨w.heap.size, 3, none⟩ (.bool T.neg)).setCell ⟨w.heap.size, 4, none⟩ (.slice A1 T.mag.length c1)).setCell ⟨w.heap.size, 5, none⟩ (.slice K1 T.kids.length d1)).heap.size = w4.heap.size := bx_size
  generalize ((((((w4.setCell ⟨w.heap.size, 0, none⟩ (.int .i64 T.kind)).setCell ⟨w.heap.size, 1, none⟩ (.int .i64 T.pos)).setCell ⟨w.heap.size, 2, none⟩ (.string T.text)).setCell ⟨w.heap.size, 3, none⟩ (.bool T.neg)).setCell ⟨w.heap.size, 4, none⟩ (.slice A1 T.mag.length c1)).setCell ⟨w.heap.size, 5, none⟩ (.slice K1 T.kids.length d1)) = w5 at *
  clear hn4 hf4 hF4 hbw; have hN5 := hF5.now; go_wp2_with fail
  go_at_call 31
  refine (deep_ok T 0 A1 c1 K1 d1 w5 lq16 lq16 hN5).mono ?_
  rintro E w6 ⟨hE, hq⟩; have hn6 := (hq.5 w.heap.size lq17).trans hn5; have hf6 := (hq.5 (w.heap.size + 1) lq17).trans hf5; have hbw6 := hbw5.trans (hq.mono lq17); have hF6 := hF5.later (X := w.heap.size) hq (Old.nn _ _); have hs6 := hq.size; clear hn5 hf5 hbw5 hq hN5 hF5 q0 q1 q2 q3 q4 q5
  rcases hE with ⟨a, ha, rfl⟩ | ⟨ha, rfl⟩
  ·rw [ha] at hR
   show Leaves Tryz.prog _ _ _ _ (.panicking _) w6
   exact lv20
  rw [ha] at hR; clear ha; have HE := Lh (show _ ∧ _ ∧ _ ∧ _ from ⟨hn6, hf6, hbw6, hF6⟩); obtain ⟨k0, k1, k2, k3, k4, k5⟩ := bx_cells hn6; have z := Lib.frozen_of_heap hn6; obtain ⟨g0, g1⟩ := bx_two2 hf6; have z1 := Lib.frozen_of_heap hf6; clear hn6 hf6 hbw6 hF6; go_wp2_with fail; clear k0 k1 k2 k3 k4 k5 z g0 g1 z1; obtain ⟨hn6, hf6, hbw6, hF6⟩ := HE.out
  have kn := (bx_off2 (w := ((((((w6.setCell ⟨w.heap.size, 0, none⟩ (.int .i64 T.kind)).setCell ⟨w.heap.size, 1, none⟩ (.int .i64 T.pos)).setCell ⟨w.heap.size, 2, none⟩ (.string T.text)).setCell ⟨w.heap.size, 3, none⟩ (.bool T.neg)).setCell ⟨w.heap.size, 4, none⟩ (.slice A1 T.mag.length c1)).setCell ⟨w.heap.size, 5, none⟩ (.slice K1 T.kids.length d1))) (b := w.heap.size + 1) (u0 := .int .i64 0) (u1 := .int .i64 0) (by omega : w.heap.size ≠ w.heap.size + 1)).trans (bx_put hn6 (u0 := .int .i64 T.kind) (u1 := .int .i64 T.pos) (u2 := .string T.text) (u3 := .bool T.neg) (u4 := .slice A1 T.mag.length c1) (u5 := .slice K1 T.kids.length d1))
  have kf := bx_put02 (u0 := .int .i64 0) (u1 := .int .i64 0) ((bx_off (w := w6) (b := w.heap.size) (u0 := .int .i64 T.kind) (u1 := .int .i64 T.pos) (u2 := .string T.text) (u3 := .bool T.neg) (u4 := .slice A1 T.mag.length c1) (u5 := .slice K1 T.kids.length d1) (by omega : w.heap.size + 1 ≠ w.heap.size)).trans hf6)
  have kF := ((hF6.put6 (b := w.heap.size) (u0 := .int .i64 T.kind) (u1 := .int .i64 T.pos) (u2 := .string T.text) (u3 := .bool T.neg) (u4 := .slice A1 T.mag.length c1) (u5 := .slice K1 T.kids.length d1) (.inl rfl) (fun h => h)).put1 (b := w.heap.size + 1) (i := 0) (u := .int .i64 0) (.inr lq17) (fun h => h)).put1 (b := w.heap.size + 1) (i := 1) (u := .int .i64 0) (.inr lq17) (fun h => h); have kF := kF.into (P := Nn) (lo := w.heap.size) (x := w.heap.size) (fun _ h => h.elim) lq17 lq17
  have kB := (((((((hbw6.setCell (p := ⟨w.heap.size, 0, none⟩) (Nat.le_refl _) (.int .i64 T.kind)).setCell (p := ⟨w.heap.size, 1, none⟩) (Nat.le_refl _) (.int .i64 T.pos)).setCell (p := ⟨w.heap.size, 2, none⟩) (Nat.le_refl _) (.string T.text)).setCell (p := ⟨w.heap.size, 3, none⟩) (Nat.le_refl _) (.bool T.neg)).setCell (p := ⟨w.heap.size, 4, none⟩) (Nat.le_refl _) (.slice A1 T.mag.length c1)).setCell (p := ⟨w.heap.size, 5, none⟩) (Nat.le_refl _) (.slice K1 T.kids.length d1)).setCell (p := ⟨w.heap.size + 1, 0, none⟩) (Nat.le_succ _) (.int .i64 0)).setCell (p := ⟨w.heap.size + 1, 1, none⟩) (Nat.le_succ _) (.int .i64 0)
  generalize ((((((((w6.setCell ⟨w.heap.size, 0, none⟩ (.int .i64 T.kind)).setCell ⟨w.heap.size, 1, none⟩ (.int .i64 T.pos)).setCell ⟨w.heap.size, 2, none⟩ (.string T.text)).setCell ⟨w.heap.size, 3, none⟩ (.bool T.neg)).setCell ⟨w.heap.size, 4, none⟩ (.slice A1 T.mag.length c1)).setCell ⟨w.heap.size, 5, none⟩ (.slice K1 T.kids.length d1)).setCell ⟨w.heap.size + 1, 0, none⟩ (.int .i64 0)).setCell ⟨w.heap.size + 1, 1, none⟩ (.int .i64 0)) = w7 at *
  obtain ⟨r0, r1, r2, r3, r4, r5⟩ := bx_cells kn; obtain ⟨g0, g1⟩ := bx_two2 kf
  show Leaves Tryz.prog _ _ _ _ .returning w7
  exact lv26
end
end
end Go.Proofs.YtjndbcnmmnkilaaGreatDoor
