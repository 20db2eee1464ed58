/- Joined by a program: Lx20, Src, SmN, NdW, Shp, Shp2, QPlain, RefGood. -/
import Derived.Test.YtjndbcnmmnkilaaGreatDoorPF39
namespace Go.Proofs.YtjndbcnmmnkilaaGreatDoor
set_option linter.unusedVariables false
set_option linter.unusedSimpArgs false
set_option maxRecDepth 1000000
set_option maxHeartbeats 16000000
section
open Go.RowKit
open List (length_append length_cons length_nil length_singleton)
def TokensR (w : World) (R : LR) (e : Ending) (w' : World) : Prop :=
 match R with
 | .ok l => ∃ A C, e = .returned (.tuple #[.slice A l.length C, .agg #[.int .i64 0, .int .i64 0]]) ∧ w'.ownsRow w.heap.size 39 3 (.slice A l.length C) l.length (tkVs l) ∧ Below w.heap.size w w'
 | .bad c a => e = .returned (.tuple #[.slice none 0 0, .agg #[.int .i64 c, .int .i64 a]]) ∧ Below w.heap.size w w'
theorem lx_new (W2 : World) (s : ByteArray) : LxS ((W2.alloc (.cells #[.int .i64 0] 3)).alloc (.cells #[.string s, .int .i64 0, .slice none 0 0, .int .i64 0, .slice (some ⟨W2.heap.size, 0, none⟩) 1 1] 85)) W2.heap.size (W2.heap.size + 1) s 0 0 [0] [] := by
 have hs : (W2.alloc (.cells #[.int .i64 0] 3)).heap.size = W2.heap.size + 1 := by simp
 refine ⟨none, 0, some ⟨W2.heap.size, 0, none⟩, 1, ⟨by omega, by simp [go_sem], by simp [go_sem], by simp [go_sem], by simp [go_sem], by simp [go_sem], by simp [go_sem], by simp [go_sem], by simp [go_sem], by simp [go_sem], World.ownsRow_nil _ _ _ _, ?_, by simp [Value.ownBlock], by simp [Value.ownBlock], by simp [Value.ownBlock]⟩⟩
 refine ⟨by simp [stVs], .inr ⟨W2.heap.size, 1, #[.int .i64 0], rfl, Nat.le_refl _, ?_, Nat.le_refl _, by unfold maxLen; omega, by simp, by simp [stVs]⟩⟩
 have := heap_alloc_old (W2.alloc (.cells #[.int .i64 0] 3)) (.cells #[.string s, .int .i64 0, .slice none 0 0, .int .i64 0, .slice (some ⟨W2.heap.size, 0, none⟩) 1 1] 85) (r := W2.heap.size) lq17
 rw [this]
 exact heap_alloc_new W2 _
theorem own_ne {w : World} {base : Nat} {e : TypeId} {size n : Nat} {v : Value} {xs : List Value} (h : w.ownsRow base e size v n xs) {X : Nat} (hX : X < base) : v.ownBlock ≠ some X := by
 intro he
 rcases h.2 with ⟨hv, hn⟩ | ⟨g, cap, cur, hv, hg, rest⟩
 ·subst hv; simp [Value.ownBlock] at he
 ·subst hv; simp [Value.ownBlock] at he; omega
theorem own_less {base base' : Nat} {e : TypeId} {size : Nat} {v : Value} {n : Nat} {xs : List Value} {w : World} (h : w.ownsRow base e size v n xs) (hb : base' ≤ base) : w.ownsRow base' e size v n xs := by
 refine ⟨h.1, ?_⟩
 rcases h.2 with hn | ⟨g, cap, cur, hv, hg, rest⟩
 ·exact .inl hn
 ·exact .inr ⟨g, cap, cur, hv, Nat.le_trans hb hg, rest⟩
theorem lxTokens_ok {A : Option Addr} {s : ByteArray} (c : Nat) (w : World) (h : BsAt w A s) (hs : s.size ≤ 65536) (hl : s.size ≤ c) (hc : c ≤ 9223372036854775807) (hT : Lib.Utf8Tabs 0 1 w) :
  Calls Tryz.prog 27 #[.slice A s.size c] w (TokensR w (lexR s.data.toList lexS)) := by
 have hmf : ∀ (fn : Fn) (first cap : Array Value) (w : World), (Instr.makeFunc fn first cap).run Tryz.prog w = .ok (.func fn first cap) w := fun _ _ _ _ => rfl
 obtain ⟨W2, hW2⟩ : ∃ W2, (w.alloc (.cells #[.slice none 0 0] 36)).alloc (.cells #[.int .i64 0, .int .i64 0] 31) = W2 := ⟨_, rfl⟩
 have hb2 : Below w.heap.size w W2 := by rw [← hW2]; exact ((Below.refl _ _).alloc (Nat.le_refl _) _).alloc lq18 _
 have hcv := conv_ok (h.later hb2) c
 have i1 : ¬ ((65536 : Int) < (s.size : Int)) := by omega
 go_enter_defers Tryz.func27, Tryz.ntmps27
 go_wp2_with fail
 have hX := lx_new W2 s
 obtain ⟨W3, hW3⟩ : ∃ W3, (W2.alloc (.cells #[.int .i64 0] 3)).alloc (.cells #[.string s, .int .i64 0, .slice none 0 0, .int .i64 0, .slice (some ⟨W2.heap.size, 0, none⟩) 1 1] 85) = W3 := ⟨_, rfl⟩
 rw [hW3] at hX ⊢
 have hb3 : Below W2.heap.size W2 W3 := by rw [← hW3]; exact ((Below.refl _ _).alloc (Nat.le_refl _) _).alloc lq18 _
 have hz3 : W2.heap.size ≤ W3.heap.size := hb3.size
 refine (lxAll_ok hX hz3 hs (fun W hW => Utf8Tabs_below hT (hb2.trans ((hb3.trans hW).mono hb2.size)))).mono ?_
 intro e w4 hA
 have hlt : w.heap.size + 1 < W2.heap.size := by rw [← hW2]; simp
 cases hR : lexR s.data.toList lexS with
 | ok l =>
  rw [hR] at hA; obtain ⟨rfl, ⟨p, o, st, LA, LC, BA, BC, hL⟩, hB⟩ := hA; have c2 := hL.c2; have hol := hL.ol; have hX4 : W2.heap.size + 1 < w4.heap.size := hL.lt; have hbw := hb2.trans ((hb3.trans hB).mono hb2.size); have hB4 := hb3.trans hB; have q0 : w4.cell? ⟨w.heap.size, 0, none⟩ = some (.slice none 0 0) := by
   rw [hB4.cell (by show w.heap.size < _; omega), ← hW2]; simp [go_sem]
  have q1 : w4.cell? ⟨w.heap.size + 1, 0, none⟩ = some (.int .i64 0) := by
   rw [hB4.cell lq11, ← hW2]; simp [go_sem]
  have q2 : w4.cell? ⟨w.heap.size + 1, 1, none⟩ = some (.int .i64 0) := by
   rw [hB4.cell lq11, ← hW2]; simp [go_sem]
  have f0 : w4.frozen? ⟨w.heap.size, 0, none⟩ = false := by
   rw [hB4.frozen (by show w.heap.size < _; omega), ← hW2]; simp [go_sem]
  have f1 : w4.frozen? ⟨w.heap.size + 1, 0, none⟩ = false := by
   rw [hB4.frozen lq11, ← hW2]; simp [go_sem]
  have f2 : w4.frozen? ⟨w.heap.size + 1, 1, none⟩ = false := by
   rw [hB4.frozen lq11, ← hW2]; simp [go_sem]
  have hs0 : w.heap.size < w4.heap.size := by omega
  have hs1 : w.heap.size + 1 < w4.heap.size := by omega
  go_wp2; have k0 : (((w4.setCell ⟨w.heap.size, 0, none⟩ (.slice LA l.length LC)).setCell ⟨w.heap.size + 1, 0, none⟩ (.int .i64 0)).setCell ⟨w.heap.size + 1, 1, none⟩ (.int .i64 0)).cell? ⟨w.heap.size, 0, none⟩ = some (.slice LA l.length LC) := cell_blk (cell_blk (cell_set_eq q0) lq17) lq17; have k1 : (((w4.setCell ⟨w.heap.size, 0, none⟩ (.slice LA l.length LC)).setCell ⟨w.heap.size + 1, 0, none⟩ (.int .i64 0)).setCell ⟨w.heap.size + 1, 1, none⟩ (.int .i64 0)).cell? ⟨w.heap.size + 1, 0, none⟩ = some (.int .i64 0) := cell_set_ne (cell_set_eq (cell_blk q1 lq17)) lq16
  have k2 : (((w4.setCell ⟨w.heap.size, 0, none⟩ (.slice LA l.length LC)).setCell ⟨w.heap.size + 1, 0, none⟩ (.int .i64 0)).setCell ⟨w.heap.size + 1, 1, none⟩ (.int .i64 0)).cell? ⟨w.heap.size + 1, 1, none⟩ = some (.int .i64 0) := cell_set_eq (cell_set_ne (cell_blk q2 lq17) lq16); have ko := own_set (own_set (own_set hol (own_ne hol (X := w.heap.size) lq17) 0 (.slice LA l.length LC)) (own_ne hol (X := w.heap.size + 1) lq17) 0 (.int .i64 0)) (own_ne hol (X := w.heap.size + 1) lq17) 1 (.int .i64 0)
  have kb := ((hbw.setCell (p := ⟨w.heap.size, 0, none⟩) (Nat.le_refl _) (.slice LA l.length LC)).setCell (p := ⟨w.heap.size + 1, 0, none⟩) (Nat.le_succ _) (.int .i64 0)).setCell (p := ⟨w.heap.size + 1, 1, none⟩) (Nat.le_succ _) (.int .i64 0)
  generalize (((w4.setCell ⟨w.heap.size, 0, none⟩ (.slice LA l.length LC)).setCell ⟨w.heap.size + 1, 0, none⟩ (.int .i64 0)).setCell ⟨w.heap.size + 1, 1, none⟩ (.int .i64 0)) = W5 at *
  show Leaves Tryz.prog _ _ _ _ .returning W5
  refine leaves_cons (f := 49) (args := #[.pointer (some ⟨w.heap.size, 0, none⟩), .pointer (some ⟨w.heap.size + 1, 0, none⟩)]) lq18 (by simp [go_sem]) ?_
  refine (catch_idle _ _ _).mono ?_
  rintro e u' w'' ⟨rfl, rfl, rfl⟩
  simp [Leaves, settle, results, Tryz.results27, go_sem, k0, k1, k2]
  rw [hR]; exact ⟨LA, LC, rfl, own_less ko lq17, kb⟩
 | bad c a =>
  rw [hR] at hA; obtain ⟨rfl, hB⟩ := hA; have hB4 := hb3.trans hB; have hbw := hb2.trans (hB4.mono hb2.size); have hs4 : W2.heap.size ≤ w4.heap.size := hB4.size; have q0 : w4.cell? ⟨w.heap.size, 0, none⟩ = some (.slice none 0 0) := by
   rw [hB4.cell (by show w.heap.size < _; omega), ← hW2]; simp [go_sem]
  have q1 : w4.cell? ⟨w.heap.size + 1, 0, none⟩ = some (.int .i64 0) := by
   rw [hB4.cell lq11, ← hW2]; simp [go_sem]
  have q2 : w4.cell? ⟨w.heap.size + 1, 1, none⟩ = some (.int .i64 0) := by
   rw [hB4.cell lq11, ← hW2]; simp [go_sem]
  have f0 : w4.frozen? ⟨w.heap.size, 0, none⟩ = false := by
   rw [hB4.frozen (by show w.heap.size < _; omega), ← hW2]; simp [go_sem]
  have f1 : w4.frozen? ⟨w.heap.size + 1, 0, none⟩ = false := by
   rw [hB4.frozen lq11, ← hW2]; simp [go_sem]
  have f2 : w4.frozen? ⟨w.heap.size + 1, 1, none⟩ = false := by
   rw [hB4.frozen lq11, ← hW2]; simp [go_sem]
  show Leaves Tryz.prog _ _ _ _ (.panicking _) w4
  refine leaves_cons (f := 49) (args := #[.pointer (some ⟨w.heap.size, 0, none⟩), .pointer (some ⟨w.heap.size + 1, 0, none⟩)]) lq18 (by simp [go_sem]) ?_
  refine (catch_stop w.heap.size (w.heap.size + 1) c a [] w4 q0 q1 q2 f0 f1 f2 lq17 lq17 lq17).mono ?_
  rintro e u' w'' ⟨rfl, rfl, k0, k1, k2, hk⟩
  simp [Leaves, settle, results, Tryz.results27, go_sem, k0, k1, k2]
  first | rw [hR] | skip
  exact ⟨rfl, hbw.trans (hk _ (Nat.le_refl _) (Nat.le_succ _))⟩
def tokOf (t : Tk) : Tok := ⟨t.kind, ⟨t.text.toArray⟩, (t.pos : Int)⟩
theorem tkVs_tok (l : List Tk) : tkVs l = tkVl (l.map tokOf) := by
 unfold tkVs tkVl
 rw [List.flatMap_map]
 rfl
theorem Utf8Tabs_blocks {w V : World} (hT : Lib.Utf8Tabs 0 1 w) (h : ∀ k, k < w.heap.size → V.heap[k]? = w.heap[k]?) : Lib.Utf8Tabs 0 1 V :=
 have hc : ∀ {a : Addr} {v : Value}, w.cell? a = some v → V.cell? a = some v := fun {a v} hc => by
  have := blt hc; obtain ⟨b, o, p⟩ := a; exact (World.cell?_of_block (h _ this)).trans hc
 ⟨fun c hc2 => hc (hT.1 c hc2), fun i hi => ⟨hc (hT.2 i hi).1, hc (hT.2 i hi).2⟩⟩
section
variable {wB nB gB : ByteArray → Bool} {nO : ByteArray → Option (List Int)}
theorem source_good (hD : Deps wB nB gB nO) (hC : Cst wB) (D : Nat) (s : ByteArray) (A : Option Addr) (c : Nat) (w : World) (h : BsAt w A s) (hs : s.size ≤ 65536) (hl : s.size ≤ c) (hc : c ≤ 9223372036854775807) (hT : Lib.Utf8Tabs 0 1 w) (l : List Tk) (hlex : lexR s.data.toList lexS = .ok l) (hok : ∀ t ∈ l.map tokOf, OkT t) (hln : l.length ≤ 1000000) (hne : modQ (Pp nB gB nO (endAt (l.map tokOf)) D) (l.map tokOf) ≠ .oof) :
  Calls Tryz.prog 10 #[.slice A s.size c] w (RetPz w (parseF nB gB nO D (l.map tokOf))) := by
 obtain ⟨R, hR⟩ : ∃ R, parseF nB gB nO D (l.map tokOf) = R := ⟨_, rfl⟩
 rw [hR]
 obtain ⟨W2, hW2⟩ : ∃ W2, (w.alloc (.cells #[.int .i64 0, .int .i64 0, .string ⟨#[]⟩, .bool false, .slice none 0 0, .slice none 0 0] 29)).alloc (.cells #[.int .i64 0, .int .i64 0] 31) = W2 := ⟨_, rfl⟩
 have hb2 : Below w.heap.size w W2 := by rw [← hW2]; exact ((Below.refl _ _).alloc (Nat.le_refl _) _).alloc lq18 _
 have hsz2 : W2.heap.size = w.heap.size + 2 := by rw [← hW2]; simp
 have hn2 : W2.heap[w.heap.size]? = some (.cells #[.int .i64 0, .int .i64 0, .string ⟨#[]⟩, .bool false, .slice none 0 0, .slice none 0 0] 29) := by rw [← hW2, heap_alloc_old _ _ lq18]; exact heap_alloc_new _ _
 have hf2 : W2.heap[w.heap.size + 1]? = some (.cells #[.int .i64 0, .int .i64 0] 31) := by
  exact lv38
 have hTk := Lh (lxTokens_ok c W2 (h.later hb2) hs hl hc (Utf8Tabs_below hT hb2))
 rw [hlex] at hTk
 have HL := Lh (show _ ∧ _ from ⟨hok, hne⟩)
 have hlm : (l.map tokOf).length = l.length := List.length_map ..
 obtain ⟨L, hL⟩ : ∃ L, l.map tokOf = L := ⟨_, rfl⟩
 have HLL := Lh hL
 clear h hok hne hlex
 go_enter Tryz.func10, Tryz.ntmps10
 go_wp2_with fail
 go_at_call 27
 refine hTk.out.mono ?_
 rintro E w3 ⟨LA, LC, rfl, ho, hb3⟩
 rw [tkVs_tok, hL, ← hlm, hL] at ho
 have hO : TkOwn W2.heap.size w3 LA LC L := ho
 have hfm := hO.form
 rw [← hlm, hL]
 have hlL : L.length ≤ 1000000 := by rw [← hL, hlm]; exact hln
 have HR := Lh hR
 clear hTk ho hlm hL hR
 go_upto_region 2 with fail
 have hb4 := (Below.refl w3.heap.size w3).alloc (Nat.le_refl _) (.cells #[.int .i64 0, .int .i64 0] 31)
 have hq4 := heap_alloc_new w3 (.cells #[.int .i64 0, .int .i64 0] 31)
 generalize w3.alloc (.cells #[.int .i64 0, .int .i64 0] 31) = w4 at *
 have hs3 := hb3.size
 have hs4 := hb4.size
 have hbw4 := (hb2.trans (hb3.mono hb2.size)).trans (hb4.mono lq17)
 have hn4 := (hb4.5 _ lq17).trans ((hb3.5 _ lq17).trans hn2)
 have hf4 := (hb4.5 _ lq17).trans ((hb3.5 _ lq17).trans hf2)
 obtain ⟨q0, q1⟩ := bx_two2 hq4
 have hP4 := Lh (parse_ok hD hC D L LA LC w4 (hO.at.later hb4) hfm.1 hfm.2 (HLL.out ▸ HL.out.1) hlL (fun V hV => Utf8Tabs_blocks hT fun k hk => (hV k (by have := hbw4.size; omega)).trans (hbw4.5 k hk)) (HLL.out ▸ HL.out.2))
 rw [show parseF nB gB nO D L = R from HLL.out ▸ HR.out] at hP4
 clear hn2 hf2 hb2 hb3 hb4 hO hfm hq4
 go_wp2_with fail
 go_at_call 14
 refine hP4.out.mono ?_
 intro E w5 hE
 clear hP4 q0 q1
 rcases hE with ⟨cc, aa, he, rfl, hq⟩ | ⟨T, r, A1, c1, K1, d1, he, rfl, hF, hq⟩
 ·have hn5 := (hq.5 _ lq17).trans hn4; have hf5 := (hq.5 _ lq17).trans hf4; have hbw5 := hbw4.trans (hq.mono hbw4.size); clear hn4 hf4 hbw4 hq
  have kn := (bx_off2 (w := ((((((w5.setCell ⟨w.heap.size, 0, none⟩ (.int .i64 0)).setCell ⟨w.heap.size, 1, none⟩ (.int .i64 0)).setCell ⟨w.heap.size, 2, none⟩ (.string ⟨#[]⟩)).setCell ⟨w.heap.size, 3, none⟩ (.bool false)).setCell ⟨w.heap.size, 4, none⟩ (.slice none 0 0)).setCell ⟨w.heap.size, 5, none⟩ (.slice none 0 0))) (b := w.heap.size + 1) (u0 := .int .i64 cc) (u1 := .int .i64 aa) (by omega : w.heap.size ≠ w.heap.size + 1)).trans (bx_put hn5 (u0 := .int .i64 0) (u1 := .int .i64 0) (u2 := .string ⟨#[]⟩) (u3 := .bool false) (u4 := .slice none 0 0) (u5 := .slice none 0 0))
  have kf := bx_put02 (u0 := .int .i64 cc) (u1 := .int .i64 aa) ((bx_off (w := w5) (b := w.heap.size) (u0 := .int .i64 0) (u1 := .int .i64 0) (u2 := .string ⟨#[]⟩) (u3 := .bool false) (u4 := .slice none 0 0) (u5 := .slice none 0 0) (by omega : w.heap.size + 1 ≠ w.heap.size)).trans hf5)
  have kB := ((((((((hbw5.setCell (p := ⟨w.heap.size, 0, none⟩) (Nat.le_refl _) (.int .i64 0)).setCell (p := ⟨w.heap.size, 1, none⟩) (Nat.le_refl _) (.int .i64 0)).setCell (p := ⟨w.heap.size, 2, none⟩) (Nat.le_refl _) (.string ⟨#[]⟩)).setCell (p := ⟨w.heap.size, 3, none⟩) (Nat.le_refl _) (.bool false)).setCell (p := ⟨w.heap.size, 4, none⟩) (Nat.le_refl _) (.slice none 0 0)).setCell (p := ⟨w.heap.size, 5, none⟩) (Nat.le_refl _) (.slice none 0 0)).setCell (p := ⟨w.heap.size + 1, 0, none⟩) (Nat.le_succ _) (.int .i64 cc)).setCell (p := ⟨w.heap.size + 1, 1, none⟩) (Nat.le_succ _) (.int .i64 aa))
  have HE := Lh (show _ ∧ _ from ⟨hn5, hf5⟩); obtain ⟨k0, k1, k2, k3, k4, k5⟩ := bx_cells hn5; have z := Lib.frozen_of_heap hn5; obtain ⟨g0, g1⟩ := bx_two2 hf5; have z1 := Lib.frozen_of_heap hf5; have KB := Lh kB; have KN := Lh kn; have KG := Lh kf; clear kB kn kf hn5 hf5 hbw5; go_wp2_with fail; clear k0 k1 k2 k3 k4 k5 z g0 g1 z1; obtain ⟨r0, r1, r2, r3, r4, r5⟩ := bx_cells KN.out; obtain ⟨g0, g1⟩ := bx_two2 KG.out
  refine bodyPost_ret (v := .tuple #[.agg #[.int .i64 0, .int .i64 0, .string ⟨#[]⟩, .bool false, .slice none 0 0, .slice none 0 0], .agg #[.int .i64 cc, .int .i64 aa]]) (by simp [results, Tryz.results10, go_sem, r0, r1, r2, r3, r4, r5, g0, g1]) rfl ?_
  exact .inl ⟨cc, aa, he, rfl, KB.out⟩
 ·have hn5 := (hq.5 _ lq17).trans hn4; have hf5 := (hq.5 _ lq17).trans hf4; have hbw5 := hbw4.trans (hq.mono hbw4.size); have hF5 : St (Pt Nn (w.heap.size + 2) w.heap.size w5.heap.size) w5 T A1 c1 K1 d1 := hF.into (fun _ h => h.elim) lq17 lq17; clear hn4 hf4 hbw4 hq hF; unfold ndV
  have kn := (bx_off2 (w := ((((((w5.setCell ⟨w.heap.size, 0, none⟩ (.int .i64 T.kind)).setCell ⟨w.heap.size, 1, none⟩ (.int .i64 T.pos)).setCell ⟨w.heap.size, 2, none⟩ (.string T.text)).setCell ⟨w.heap.size, 3, none⟩ (.bool T.neg)).setCell ⟨w.heap.size, 4, none⟩ (.slice A1 T.mag.length c1)).setCell ⟨w.heap.size, 5, none⟩ (.slice K1 T.kids.length d1))) (b := w.heap.size + 1) (u0 := .int .i64 0) (u1 := .int .i64 0) (by omega : w.heap.size ≠ w.heap.size + 1)).trans (bx_put hn5 (u0 := .int .i64 T.kind) (u1 := .int .i64 T.pos) (u2 := .string T.text) (u3 := .bool T.neg) (u4 := .slice A1 T.mag.length c1) (u5 := .slice K1 T.kids.length d1))
  have kf := bx_put02 (u0 := .int .i64 0) (u1 := .int .i64 0) ((bx_off (w := w5) (b := w.heap.size) (u0 := .int .i64 T.kind) (u1 := .int .i64 T.pos) (u2 := .string T.text) (u3 := .bool T.neg) (u4 := .slice A1 T.mag.length c1) (u5 := .slice K1 T.kids.length d1) (by omega : w.heap.size + 1 ≠ w.heap.size)).trans hf5)
  have kB := ((((((((hbw5.setCell (p := ⟨w.heap.size, 0, none⟩) (Nat.le_refl _) (.int .i64 T.kind)).setCell (p := ⟨w.heap.size, 1, none⟩) (Nat.le_refl _) (.int .i64 T.pos)).setCell (p := ⟨w.heap.size, 2, none⟩) (Nat.le_refl _) (.string T.text)).setCell (p := ⟨w.heap.size, 3, none⟩) (Nat.le_refl _) (.bool T.neg)).setCell (p := ⟨w.heap.size, 4, none⟩) (Nat.le_refl _) (.slice A1 T.mag.length c1)).setCell (p := ⟨w.heap.size, 5, none⟩) (Nat.le_refl _) (.slice K1 T.kids.length d1)).setCell (p := ⟨w.heap.size + 1, 0, none⟩) (Nat.le_succ _) (.int .i64 0)).setCell (p := ⟨w.heap.size + 1, 1, none⟩) (Nat.le_succ _) (.int .i64 0))
  have kF := ((hF5.put6 (b := w.heap.size) (u0 := .int .i64 T.kind) (u1 := .int .i64 T.pos) (u2 := .string T.text) (u3 := .bool T.neg) (u4 := .slice A1 T.mag.length c1) (u5 := .slice K1 T.kids.length d1) (.inl rfl) (fun h => h)).put1 (b := w.heap.size + 1) (i := 0) (u := .int .i64 0) (.inr lq17) (fun h => h)).put1 (b := w.heap.size + 1) (i := 1) (u := .int .i64 0) (.inr lq17) (fun h => h); have kF := kF.into (P := Nn) (lo := w.heap.size) (x := w.heap.size) (fun _ h => h.elim) lq17 lq17; have HE := Lh (show _ ∧ _ from ⟨hn5, hf5⟩); obtain ⟨k0, k1, k2, k3, k4, k5⟩ := bx_cells hn5
  have z := Lib.frozen_of_heap hn5; obtain ⟨g0, g1⟩ := bx_two2 hf5; have z1 := Lib.frozen_of_heap hf5; have KB := Lh kB; have KF := Lh kF; have KN := Lh kn; have KG := Lh kf; clear kB kn kf hn5 hf5 hbw5 kF hF5; go_wp2_with fail; clear k0 k1 k2 k3 k4 k5 z g0 g1 z1; obtain ⟨r0, r1, r2, r3, r4, r5⟩ := bx_cells KN.out; obtain ⟨g0, g1⟩ := bx_two2 KG.out
  refine bodyPost_ret (v := .tuple #[.agg #[.int .i64 T.kind, .int .i64 T.pos, .string T.text, .bool T.neg, .slice A1 T.mag.length c1, .slice K1 T.kids.length d1], .agg #[.int .i64 0, .int .i64 0]]) (by simp [results, Tryz.results10, go_sem, r0, r1, r2, r3, r4, r5, g0, g1]) rfl ?_
  exact .inr ⟨T, r, A1, c1, K1, d1, he, rfl, KF.out, KB.out⟩
end
end
section
open List (length_append length_cons length_nil length_singleton)
mutual
def Nd.smk : Nd → Bool
 | .mk k _ _ _ _ ks => (k == 1 || k == 2 || k == 4 || k == 31) && smks ks
def smks : List Nd → Bool
 | [] => true
 | t :: r => t.smk && smks r
end
def Nd.dep (T : Nd) : Nat := if T.smk = true then T.depth else T.depth + 1000000
theorem smks_mem : ∀ {l : List Nd} {t : Nd}, smks l = true → t ∈ l → t.smk = true
 | [], _, _, h => by cases h
 | a :: r, t, hs, h => by
  rw [smks, Bool.and_eq_true] at hs
  rcases List.mem_cons.1 h with rfl | h
  ·exact hs.1
  ·exact smks_mem hs.2 h
theorem Nd.smk_kid {T t : Nd} (hs : T.smk = true) (h : t ∈ T.kids) : t.smk = true := by
 cases T
 rw [Nd.smk, Bool.and_eq_true] at hs
 exact smks_mem hs.2 h
theorem Nd.smk_kind {T : Nd} (hs : T.smk = true) : T.kind = 1 ∨ T.kind = 2 ∨ T.kind = 4 ∨ T.kind = 31 := by
 cases T
 rw [Nd.smk, Bool.and_eq_true] at hs
 have h := hs.1
 simp only [Bool.or_eq_true, beq_iff_eq] at h
 rcases h with ((h | h) | h) | h
 ·exact .inl h
 ·exact .inr (.inl h)
 ·exact .inr (.inr (.inl h))
 ·exact .inr (.inr (.inr h))
theorem Nd.dep_kid {T t : Nd} (h : t ∈ T.kids) : t.dep < T.dep := by
 have := Nd.depth_kid h
 unfold Nd.dep
 by_cases hs : T.smk = true
 ·rw [if_pos hs, if_pos (Nd.smk_kid hs h)]; exact this
 ·rw [if_neg hs]
  split <;> omega
theorem Nd.dep_eq (T : Nd) : T.dep = (T.dep - 1) + 1 := by
 have := T.depth_eq
 unfold Nd.dep
 split <;> omega
theorem Nd.dep_sm {T : Nd} {D : Nat} (h : T.dep ≤ D) (hD : D ≤ 1000000) : T.smk = true := by
 unfold Nd.dep at h
 have := T.depth_eq
 split at h
 ·assumption
 ·omega
theorem Nd.dep_of {T : Nd} (h : T.smk = true) : T.dep = T.depth := if_pos h
end
section
open Go.RowKit
open List (length_append length_cons length_nil length_singleton)
theorem weights_take_le (l : List Nd) (k : Nat) : weights (l.take k) ≤ weights l := by
 induction l generalizing k with
 | nil => simp
 | cons a r ih =>
  cases k with
  | zero => simp [weights]
  | succ k => rw [List.take_succ_cons, weights, weights]; have := ih k; omega
theorem weights_len : ∀ l : List Nd, l.length ≤ weights l
 | [] => Nat.le_refl _
 | a :: r => by rw [weights, length_cons, a.weight_eq]; have := weights_len r; omega
def ShapeOk (D : Nat) (w : World) (v : Value) (p : Nd → Bool) : Prop :=
 ∃ f caps, v = .func (.func f) #[] caps ∧ (∀ args W, (callFunc f args).run Tryz.prog W = .ok (.enter f args) W) ∧ ∀ W, Below w.heap.size w W → ∀ (T : Nd) (A : Option Addr) (c : Nat) (K : Option Addr) (d : Nat), T.dep ≤ D → T.weight ≤ 1048576 → NodeAt W T A c K d →
  Calls Tryz.prog f (#[ndV T A c K d] ++ caps) W fun e w' => e = .returned (.bool (p T)) ∧ Below W.heap.size W w'
theorem ShapeOk.later {D : Nat} {w w' : World} {v : Value} {p : Nd → Bool} (h : ShapeOk D w v p) (hb : Below w.heap.size w w') : ShapeOk D w' v p := by
 obtain ⟨f, caps, hv, hrn, hf⟩ := h
 exact ⟨f, caps, hv, hrn, fun W hW => hf W (hb.trans (hW.mono hb.size))⟩
def ShapesAt (D : Nat) (w : World) (A : Option Addr) (L : List (Nd → Bool)) : Prop := ∀ i p, L[i]? = some p → ∃ b off v, A = some ⟨b, off, none⟩ ∧ w.cell? ⟨b, off + i, none⟩ = some v ∧ ShapeOk D w v p
theorem ShapesAt.later {D : Nat} {w w' : World} {A : Option Addr} {L : List (Nd → Bool)} (h : ShapesAt D w A L) (hb : Below w.heap.size w w') : ShapesAt D w' A L := fun i p hi => by
 obtain ⟨b, off, v, hA, hc, hs⟩ := h i p hi
 exact ⟨b, off, v, hA, cLt hb hc, hs.later hb⟩
def rowB : List Nd → List (Nd → Bool) → Bool
 | [], [] => true
 | t :: r, p :: q => p t && rowB r q
 | _, _ => false
theorem rowB_len : ∀ {l : List Nd} {L : List (Nd → Bool)}, l.length ≠ L.length → rowB l L = false
 | [], [], h => absurd rfl h
 | [], _ :: _, _ => rfl
 | _ :: _, [], _ => rfl
 | t :: r, p :: q, h => by rw [rowB, rowB_len (l := r) (L := q) (by simpa using h), Bool.and_false]
theorem rowB_drop {l : List Nd} {L : List (Nd → Bool)} {k : Nat} {t : Nd} {p : Nd → Bool} (ht : l[k]? = some t) (hp : L[k]? = some p) : rowB (l.drop k) (L.drop k) = (p t && rowB (l.drop (k + 1)) (L.drop (k + 1))) := by
 obtain ⟨h1, rfl⟩ := List.getElem?_eq_some_iff.1 ht
 obtain ⟨h2, rfl⟩ := List.getElem?_eq_some_iff.1 hp
 rw [List.drop_eq_getElem_cons h1, List.drop_eq_getElem_cons h2, rowB]
def Within (D : Nat) (l : List Nd) : Prop := ∀ t ∈ l, t.dep ≤ D ∧ t.weight ≤ 1048576
theorem row_ok (D : Nat) (l : List Nd) (n : Nat) (K : Option Addr) (d : Nat) (L : List (Nd → Bool)) (m : Nat) (A : Option Addr) (c : Nat) (w : World) (hn : l.length = n) (hl : KidsAt w l K 0) (hW : Within D l) (hm : L.length = m) (hL : ShapesAt D w A L) (hnd : n ≤ d) (hd : d ≤ maxLen) (hmc : m ≤ c) (hc : c ≤ maxLen) :
  Calls Tryz.prog 209 #[.slice K n d, .slice A m c] w fun e w' => e = .returned (.bool (rowB l L)) ∧ Below w.heap.size w w' := by
 unfold maxLen at hd hc
 have HK := Lh hl
 have HL := Lh hL
 have HW := Lh hW
 have HN := Lh hn
 have HM := Lh hm
 by_cases hnm : n = m
 ·subst hnm; have e1 : ((n : Int) != (n : Int)) = false := by simp
  clear hl hL hW hn hm; go_enter Tryz.func209, Tryz.ntmps209; go_wp2_with fail
  go_loopw [14] (fun iv wr => ∃ k : Nat, iv = .int .i64 k ∧ k ≤ n ∧ Hid (rowB l L = rowB (l.drop k) (L.drop k)) ∧ Below w.heap.size w wr) (fun iv _ => n - (intOf iv).toNat)
  case atStart => exact ⟨0, rfl, Nat.zero_le _, Lh lq18, Below.refl _ _⟩
  case round =>
   obtain ⟨k, rfl, hk, hR, hbr⟩ := hrel
   by_cases hkl : k < n
   ·have o1 : decide ((k : Int) < (n : Int)) = true := dTo; have o2 : decide (k < n) = true := dTr hkl; obtain ⟨t, ht⟩ : ∃ t, l[k]? = some t := ⟨_, List.getElem?_eq_getElem (by rw [HN.out]; exact hkl)⟩; obtain ⟨p, hp⟩ : ∃ p, L[k]? = some p := ⟨_, List.getElem?_eq_getElem (by rw [HM.out]; exact hkl)⟩; obtain ⟨b, off, A', c', K', d', hK, hC, hNt⟩ := HK.out.kid ht; rw [Nat.zero_add] at hC; subst hK; obtain ⟨b2, off2, v, hA, hv, f, caps, hvf, hrn, hf⟩ := HL.out k p hp; subst hA hvf; obtain ⟨n0, n1, n2, n3, n4, n5⟩ := hC.later hbr; have hv2 := cLt hbr hv; obtain ⟨hd1, hw1⟩ := HW.out t (mog ht)
    have hI := hf wr hbr t A' c' K' d' hd1 hw1 (hNt.later hbr); unfold ndV at hI; have hRD := Lh (rowB_drop ht hp); clear hC hNt ht hp hf hd1 hw1 hv; have HI := Lh hI; clear hI
    cases hpt : p t with
    | true =>
     rw [hpt] at HI; rw [hpt, Bool.true_and] at hRD; go_wp2_with (with_reducible refine HI.out.mono ?_; rintro e w3 ⟨rfl, hb3⟩)
     go_roundw
     case rel => exact ⟨k + 1, by go_num, by omega, Lh (hR.out.trans hRD.out), hbr.trans (hb3.mono hbr.size)⟩
     case measure => simp [intOf]; omega
    | false =>
     rw [hpt] at HI; rw [hpt, Bool.false_and] at hRD; go_wp2_with (with_reducible refine HI.out.mono ?_; rintro e w3 ⟨rfl, hb3⟩); go_ret; exact ⟨by rw [hR.out, hRD.out]; rfl, hbr.trans (hb3.mono hbr.size)⟩
   ·have o1 : decide ((k : Int) < (n : Int)) = false := dFo; have o2 : decide (k < n) = false := dFa hkl; have hR2 := hR.out; rw [List.drop_eq_nil_of_le (by have := HN.out; omega), List.drop_eq_nil_of_le (by have := HM.out; omega), rowB] at hR2; go_wp2_with fail; go_ret; exact ⟨by rw [hR2]; rfl, hbr⟩
 ·have e1 : ((n : Int) != (m : Int)) = true := by simp; omega
  have e2 : (n != m) = true := by simp; omega
  have hR2 : rowB l L = false := rowB_len lq17; rw [hR2]; clear hl hL hW hR2; go_enter Tryz.func209, Tryz.ntmps209; go_wp2_with fail; go_ret; exact ⟨rfl, Below.refl _ _⟩
theorem run_call (f : FuncId) (fn : Func) (h : Tryz.prog.funcs[f]? = some fn) (h1 : (fn.name == "runtime.NumGoroutine") = false) (h2 : fn.body.isNone = false) (args : Array Value) (W : World) : (callFunc f args).run Tryz.prog W = .ok (.enter f args) W := by
 exact lv48
theorem box_one (w : World) (v : Value) (t : TypeId) : (w.alloc (.cells #[v] t)).cell? ⟨w.heap.size, 0, none⟩ = some v := cell_of_row _ _ 0 _ _ _ (heap_alloc_new w _)
theorem within_kids {D : Nat} {T : Nd} (hD : T.dep ≤ D + 1) (hW : T.weight ≤ 1048576) : Within D T.kids := fun t ht => by
 have h1 := Nd.dep_kid ht
 have h2 := Nd.weight_kid ht
 omega
theorem kids1_ok (D : Nat) (L : List (Nd → Bool)) (m c' X : Nat) (A' : Option Addr) (w : World) (hm : L.length = m) (hL : ShapesAt D w A' L) (hmc : m ≤ c') (hc : c' ≤ maxLen) (hX : w.cell? ⟨X, 0, none⟩ = some (.slice A' m c')) (T : Nd) (A : Option Addr) (c : Nat) (K : Option Addr) (d : Nat) (hD : T.dep ≤ D + 1) (hW : T.weight ≤ 1048576) (hN : NodeAt w T A c K d) :
  Calls Tryz.prog 208 #[ndV T A c K d, .pointer (some ⟨X, 0, none⟩)] w fun e w' => e = .returned (.bool (rowB T.kids L)) ∧ Below w.heap.size w w' := by
 have hWi := within_kids hD hW
 have hX2 := fun o => cLt ((Below.refl w.heap.size w).alloc (Nat.le_refl _) o) hX
 have hXl := World.block_lt_of_cell? w _ hX
 have hR := fun o => row_ok D T.kids T.kids.length K d L m A' c' (w.alloc o) rfl (hN.parts.2.2.2.2.2.2.2.2.2.later ((Below.refl w.heap.size w).alloc (Nat.le_refl _) o)) hWi hm (hL.later ((Below.refl w.heap.size w).alloc (Nat.le_refl _) o)) hN.parts.2.2.2.2.1 hN.parts.2.2.2.2.2.1 hmc hc
 have HR := Lh hR
 clear hR hL hWi
 obtain ⟨hm1, hm2, hrm, hw32, hk1, hk2, ⟨hk64a, hk64b⟩, ⟨ha64a, ha64b⟩, hts, hKs, HK⟩ := hN.hd
 have hb1 := (Below.refl w.heap.size w).alloc (Nat.le_refl _) (.cells #[.int .i64 T.kind, .int .i64 T.pos, .string T.text, .bool T.neg, .slice A T.mag.length c, .slice K T.kids.length d] 29)
 obtain ⟨c0, c1, c2, c3, c4, c5⟩ := (cellsN_new w T A c K d 29).box
 have c6 := hX2 (.cells #[.int .i64 T.kind, .int .i64 T.pos, .string T.text, .bool T.neg, .slice A T.mag.length c, .slice K T.kids.length d] 29)
 clear hX hX2
 unfold ndV
 clear hKs hN
 go_enter Tryz.func208, Tryz.ntmps208
 go_wp2_with (go_at_call 209; refine (HR.out _).mono ?_; rintro e w3 ⟨rfl, hb3⟩)
 go_ret
 exact ⟨rfl, hb1.trans (hb3.mono hb1.size)⟩
end
section
open Go.Lib
open List (length_append length_cons length_nil length_singleton)
def hexc (d : Nat) : UInt8 := UInt8.ofNat (if d < 10 then 48 + d else 87 + d)
def numb : Nat → Nat → List UInt8
 | _, 0 => []
 | r, n + 1 => numb (r / 16) n ++ [hexc (r % 16)]
theorem numb_len : ∀ (n r : Nat), (numb r n).length = n
 | 0, _ => rfl
 | n + 1, r => by simp [numb, numb_len n]
def Wide (r : Nat) : Prop := (128 ≤ r ∧ r ≤ 159) ∨ r = 8232 ∨ r = 8233 ∨ r = 65279
instance (r : Nat) : Decidable (Wide r) := by unfold Wide; infer_instance
def quotedL (r : Nat) : List UInt8 :=
 if r = 39 ∨ r = 92 then 92 :: enc r
 else if r = 10 then [92, 110]
 else if r = 9 then [92, 116]
 else if r < 32 ∨ r = 127 then 92 :: 120 :: numb r 2
 else if Wide r then 92 :: 117 :: numb r 4
 else enc r
def quoteL (rs : List Nat) : List UInt8 := 39 :: (rs.flatMap quotedL ++ [39])
theorem quotedL_len (r : Nat) : 1 ≤ (quotedL r).length ∧ (quotedL r).length ≤ 6 := by
 have h := enc_len r
 unfold quotedL
 split
 ·simp; omega
 split
 ·simp
 split
 ·simp
 split
 ·simp [numb_len]
 split
 ·simp [numb_len]
 ·omega
theorem quoteds_len : ∀ rs : List Nat, rs.length ≤ (rs.flatMap quotedL).length ∧ (rs.flatMap quotedL).length ≤ 6 * rs.length
 | [] => by simp
 | r :: rs => by
  have h := quotedL_len r; have h2 := quoteds_len rs; simp only [List.flatMap_cons, length_append, length_cons]
  omega
end
section
open Go.RowKit Go.Shelf
open List (length_append length_cons length_nil length_singleton)
def goodB (s : ByteArray) : Bool := encs (pieces s.data.toList) == s.data.toList
theorem goodB_iff (s : ByteArray) : goodB s = true ↔ encs (pieces s.data.toList) = s.data.toList := by simp [goodB]
end
end Go.Proofs.YtjndbcnmmnkilaaGreatDoor
