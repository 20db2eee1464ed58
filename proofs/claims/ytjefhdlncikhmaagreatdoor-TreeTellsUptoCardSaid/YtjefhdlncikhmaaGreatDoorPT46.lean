/- Joined by a program: Cp1, LTells, Tabs, LiftT. -/
import Derived.Test.YtjefhdlncikhmaaGreatDoorPT45
namespace Go.Proofs.YtjefhdlncikhmaaGreatDoor
set_option linter.unusedVariables false
set_option linter.unusedSimpArgs false
set_option maxRecDepth 1000000
set_option maxHeartbeats 16000000
section
open Go.RowKit
open List (length_append length_cons length_nil length_singleton)
theorem nd_info : (Tryz.prog.info? 27).map (fun i => (i.zero, i.size, i.bytes)) = some (some (.agg #[.int .i64 0, .int .i64 0, .string ⟨#[]⟩, .bool false, .slice none 0 0, .slice none 0 0]), 6, 88) := by kernel_rfl
theorem w32_info : (Tryz.prog.info? 61).map (fun i => (i.zero, i.size, i.bytes)) = some (some (.int .u32 0), 1, 4) := by kernel_rfl
theorem Far.none_to {base b1 : Nat} {g : Option Nat} {w : World} {T : Nd} {A : Option Addr} {c : Nat} {K : Option Addr} {d : Nat} (h : Far b1 none w T A c K d) (hb : base ≤ b1) (hg : ∀ x, g = some x → x < b1) : Far base g w T A c K d := fun W hW =>
 h W fun k h1 h2 _ => hW k (Nat.le_trans hb h1) h2 (fun e => by have := hg k e.symm; omega)
theorem heap_set_ne (w : World) {X k : Nat} (h : k ≠ X) (i : Nat) (u : Value) : (w.setCell ⟨X, i, none⟩ u).heap[k]? = w.heap[k]? := Below.heap_setCell _ _ _ _ (fun e => h e)
theorem heap_put6 (w : World) {X k : Nat} (h : k ≠ X) (a0 a1 a2 a3 a4 a5 : Value) : ((((((w.setCell ⟨X, 0, none⟩ a0).setCell ⟨X, 1, none⟩ a1).setCell ⟨X, 2, none⟩ a2).setCell ⟨X, 3, none⟩ a3).setCell ⟨X, 4, none⟩ a4).setCell ⟨X, 5, none⟩ a5).heap[k]? = w.heap[k]? := by
 rw [heap_set_ne _ h, heap_set_ne _ h, heap_set_ne _ h, heap_set_ne _ h, heap_set_ne _ h, heap_set_ne _ h]
theorem below_put6 {B : Nat} {w0 w : World} (hb : Below B w0 w) {X : Nat} (h : B ≤ X) (a0 a1 a2 a3 a4 a5 : Value) : Below B w0 ((((((w.setCell ⟨X, 0, none⟩ a0).setCell ⟨X, 1, none⟩ a1).setCell ⟨X, 2, none⟩ a2).setCell ⟨X, 3, none⟩ a3).setCell ⟨X, 4, none⟩ a4).setCell ⟨X, 5, none⟩ a5) :=
 (((((hb.setCell (p := ⟨X, 0, none⟩) h _).setCell (p := ⟨X, 1, none⟩) h _).setCell (p := ⟨X, 2, none⟩) h _).setCell (p := ⟨X, 3, none⟩) h _).setCell (p := ⟨X, 4, none⟩) h _).setCell (p := ⟨X, 5, none⟩) h _
theorem weights_lenT : ∀ l : List Nd, l.length ≤ weights l
 | [] => Nat.le_refl _
 | a :: r => by rw [weights, length_cons, a.weight_eq]; have := weights_lenT r; omega
theorem cells_boxT {w : World} {n : Nat} {T : Nd} {A : Option Addr} {c : Nat} {K : Option Addr} {d : Nat} {t : TypeId} (h : w.heap[n]? = some (.cells #[.int .i64 T.kind, .int .i64 T.pos, .string T.text, .bool T.neg, .slice A T.mag.length c, .slice K T.kids.length d] t (0, 0))) : CellsN w n 0 T A c K d :=
 ⟨cell_of_row _ _ 0 _ _ _ h, cell_of_row _ _ 1 _ _ _ h, cell_of_row _ _ 2 _ _ _ h, cell_of_row _ _ 3 _ _ _ h, cell_of_row _ _ 4 _ _ _ h, cell_of_row _ _ 5 _ _ _ h⟩
theorem take_snoc_nd : ∀ (l : List Nd) (k : Nat) (t : Nd), l[k]? = some t → l.take (k + 1) = l.take k ++ [t]
 | [], k, t, h => by simp at h
 | a :: r, 0, t, h => by simp at h; subst h; rfl
 | a :: r, k + 1, t, h => by rw [List.take_succ_cons, List.take_succ_cons, take_snoc_nd r k t (by simpa using h)]; rfl
theorem at_ofN {x : Value} {g H n c : Nat} (h : x.ownBlock = some g ∨ g = H) : (Value.slice (some ⟨g, 0, none⟩) n c).ownBlock = x.ownBlock ∨ (Value.slice (some ⟨g, 0, none⟩) n c).ownBlock = some H := by
 rcases h with h | h
 ·exact .inl (by rw [h]; rfl)
 ·exact .inr (by rw [h]; rfl)
theorem lcopied_ok (T : Nd) : ∀ (A : Option Addr) (c : Nat) (K : Option Addr) (d : Nat) (w : World), NodeAt w T A c K d → T.weight ≤ 1048576 →
  Calls Tryz.prog 9 #[ndV T A c K d] w fun e w' => ∃ A2 c2 K2 d2, e = .returned (ndV T A2 c2 K2 d2) ∧ Far w.heap.size none w' T A2 c2 K2 d2 ∧ Below w.heap.size w w' := by
 induction T using Nd.ind with
 | h T ih =>
  intro A c K d w hN hW; obtain ⟨i0, hi0, hz0, hz1, hz2⟩ := info_parts nd_info; obtain ⟨j0, hj0, jz0, jz1, jz2⟩ := info_parts w32_info; obtain ⟨hm1, hm2, hrm, hw32, hk1, hk2, hk64, ha64, hts, hKs⟩ := hN.parts; have hNP := Lh (show I64 T.kind ∧ I64 T.pos ∧ T.text.size ≤ maxLen ∧ ∀ z ∈ T.mag, 0 ≤ z ∧ z < 4294967296 from ⟨hk64, ha64, hts, hw32⟩); unfold maxLen at hm2 hk2 hts; obtain ⟨hk64a, hk64b⟩ := hk64; obtain ⟨ha64a, ha64b⟩ := ha64; have HK := Lh (fun (i : Nat) (t : Nd) (hi : T.kids[i]? = some t) => hN.kid hi)
  have hlw : T.kids.length ≤ 1048576 := by have := T.weight_eq; have := weights_lenT T.kids; omega
  have hmw : T.mag.length ≤ 1048576 := by have := T.weight_eq; omega
  have hb0 := (Below.refl w.heap.size w).alloc (Nat.le_refl _) (bx T.kind T A c K d); have hb1 := hb0.alloc hb0.size (.cells #[.int .i64 0, .int .i64 0, .string ⟨#[]⟩, .bool false, .slice none 0 0, .slice none 0 0] 27); have x0 := heap_alloc_new w (bx T.kind T A c K d); have hlx : w.heap.size < (w.alloc (bx T.kind T A c K d)).heap.size := by simp
  have x1 := (Lib.alloc_old _ (.cells #[.int .i64 0, .int .i64 0, .string ⟨#[]⟩, .bool false, .slice none 0 0, .slice none 0 0] 27) _ hlx).trans x0; have x2 := heap_alloc_new (w.alloc (bx T.kind T A c K d)) (.cells #[.int .i64 0, .int .i64 0, .string ⟨#[]⟩, .bool false, .slice none 0 0, .slice none 0 0] 27); have hsg : (w.alloc (bx T.kind T A c K d)).heap.size = w.heap.size + 1 := by simp
  have hs2 : ((w.alloc (bx T.kind T A c K d)).alloc (.cells #[.int .i64 0, .int .i64 0, .string ⟨#[]⟩, .bool false, .slice none 0 0, .slice none 0 0] 27)).heap.size = w.heap.size + 2 := by simp
  rw [hsg] at x2; obtain ⟨c0, c1, c2, c3, c4, c5⟩ := (cells_boxT x1).box; have HB := Lh (show _ ∧ _ from ⟨x2, hs2⟩); have HM := Lh hrm; clear x0 hlx x1 x2 hb0 hsg hN hKs hrm hw32 hs2; unfold ndV; go_enter Tryz.func9, Tryz.ntmps9; go_wp2_with fail
  generalize (w.alloc (bx T.kind T A c K d)).alloc (.cells #[.int .i64 0, .int .i64 0, .string ⟨#[]⟩, .bool false, .slice none 0 0, .slice none 0 0] 27) = w2 at *
  have hs2 := HB.out.2
  go_loopw [3, 4] (fun kv iv wr => ∃ (k : Nat) (KA : Option Addr) (KC : Nat) (xs : List Value), kv = .slice KA k KC ∧ iv = .int .i64 k ∧ k ≤ T.kids.length ∧ k ≤ KC ∧ KC ≤ maxLen ∧ wr.ownsRow w2.heap.size 27 6 (.slice KA k KC) k xs ∧ RowN w2.heap.size (Value.slice KA k KC).ownBlock wr (T.kids.take k) xs ∧ Below w2.heap.size w2 wr) (fun _ iv _ => T.kids.length - (intOf iv).toNat)
  case atStart => exact ⟨0, none, 0, [], rfl, rfl, Nat.zero_le _, Nat.le_refl _, Nat.zero_le _, World.ownsRow_nil _ _ _ _, RowN.nil _ _ _, Below.refl _ _⟩
  case round =>
   obtain ⟨k, KA, KC, xs, rfl, rfl, hk, hkc, hkm, hown, hrow, hbr⟩ := hrel; have d5 := cLt hbr c5; have hwl : w.heap.size < wr.heap.size := Nat.lt_of_lt_of_le (blt c5) hbr.size; have hbw := hb1.trans (hbr.mono hb1.size)
   by_cases hkl : k < T.kids.length
   ·have o1 : decide ((k : Int) < (T.kids.length : Int)) = true := dTo; have o2 : decide (k < T.kids.length) = true := dTr hkl; obtain ⟨t, ht⟩ : ∃ t, T.kids[k]? = some t := ⟨_, List.getElem?_eq_getElem hkl⟩; obtain ⟨b, off, A', c', K', d', hK, hC, hNt⟩ := HK.out k t ht; subst hK; have htm := mog ht; obtain ⟨n0, n1, n2, n3, n4, n5⟩ := hC.later hbw; have htw := T.weight_kid htm; have hI := ih t htm A' c' K' d' wr (hNt.later hbw) lq29; unfold ndV at hI; have hTk := take_snoc_nd T.kids k t ht; have HO := Lh (show _ ∧ _ ∧ _ from ⟨hown, hrow, hTk⟩); clear hC hNt ht htm hown hrow hTk
    have hbl : b < wr.heap.size := blt n0
    go_wp2_with (first
     | (go_at_call 9; refine hI.mono ?_; rintro e w3 ⟨A2, c2, K2, d2, rfl, hF3, hb3⟩; have hb4 : Below wr.heap.size wr (w3.alloc (.cells #[.int .i64 t.kind, .int .i64 t.pos, .string t.text, .bool t.neg, .slice A2 t.mag.length c2, .slice K2 t.kids.length d2] 27)) := hb3.alloc hb3.size _)
     | (at_builtin; refine wpList_append_lies _ rfl _ _ 25 rfl w2.heap.size 27 i0 _ 6 88 Tryz.underlying25 hi0 hz0 hz1 hz2 rfl lq28 (.slice KA k KC) k xs rfl (own_laterT HO.out.1 hb4) ⟨w3.heap.size, 0, none⟩ 1 1 [.int .i64 t.kind, .int .i64 t.pos, .string t.text, .bool t.neg, .slice A2 t.mag.length c2, .slice K2 t.kids.length d2] rfl rfl (World.news_of_block (cs := #[.int .i64 t.kind, .int .i64 t.pos, .string t.text, .bool t.neg, .slice A2 t.mag.length c2, .slice K2 t.kids.length d2]) (t := 27) (fr := (0, 0)) (heap_alloc_new w3 _)) (by simp [Value.oneCell']) lq28 lq24 lq29 (Nat.le_trans hbr.size hb4.size) (w3.heap.size + 1) lq30 ?_; intro g cap w5 hown5 hgr hat hlt))
    have hgb : ∀ j, (Value.slice KA k KC).ownBlock = some j → w2.heap.size ≤ j ∧ j < wr.heap.size := fun j hj => HO.out.1.lt j hj
    have hb5 : Below w2.heap.size w2 w5 := (hbr.trans (hb4.mono hbr.size)).grown hgr (Nat.le_trans hbr.size hb4.size) (fun j hj => (hgb j hj).1); have hrow5 := (((HO.out.2.1.later hb3).snoc (hF3.none_to hbr.size (fun j hj => (hgb j hj).2))).later ((Below.refl _ _).alloc (Nat.le_refl _) (.cells #[.int .i64 t.kind, .int .i64 t.pos, .string t.text, .bool t.neg, .slice A2 t.mag.length c2, .slice K2 t.kids.length d2] 27))).grown (v := .slice KA k KC) (v' := .slice (some ⟨g, 0, none⟩) (k + 1) cap) hgr (at_ofN (by simpa using hat)); rw [← HO.out.2.2] at hrow5; have hfit := own_formN hown5
    go_roundw
    case rel => exact ⟨k + 1, some ⟨g, 0, none⟩, cap, xs ++ ndC t A2 c2 K2 d2, rfl, by go_num, by omega, by obtain ⟨_, _, e, h1, h2⟩ := hfit; injection e with _ _ e; omega, by obtain ⟨_, _, e, h1, h2⟩ := hfit; injection e with _ _ e; omega, hown5, hrow5, hb5⟩
    case measure => simp [intOf]; omega
   ·have o1 : decide ((k : Int) < (T.kids.length : Int)) = false := dFo; have o2 : decide (k < T.kids.length) = false := dFa hkl; have hke : k = T.kids.length := by omega
    subst hke; rw [List.take_of_length_le (Nat.le_refl _)] at hrow; have hsx : w.heap.size + 1 < w2.heap.size := by omega
    obtain ⟨g0, g1, g2, g3, g4⟩ := cl5 hbr c0 c1 c2 c3 c4
    go_wp2_with (first
     | (at_builtin; refine wpList_append_ints (P := Tryz.prog) _ rfl _ _ 22 rfl w2.heap.size 61 j0 _ 4 .u32 Tryz.underlying22 hj0 jz0 jz1 jz2 rfl (.slice none 0 0) 0 [] rfl (World.ownsRow_nil _ _ _ _) A T.mag.length c T.mag rfl rfl (HM.out.later hbw) lq24 lq29 hbr.size ?_; intro v6 w6 hown6 hgr6 hat6; obtain ⟨AX, cX, rfl, hx1, hx2, _⟩ := own_form hown6; have hb6 : Below wr.heap.size wr w6 := (Below.refl wr.heap.size wr).grown hgr6 (Nat.le_refl _) (fun j hj => by simp [Value.ownBlock] at hj); obtain ⟨g0, g1, g2, g3, g4⟩ := cl5 hb6 g0 g1 g2 g3 g4; rw [Nat.zero_add] at hown6; have hw6 : Below w2.heap.size w2 w6 := hbr.trans (hb6.mono hbr.size); have hB6 := (hw6.5 _ hsx).trans HB.out.1; have r0 := cell_of_row w6 _ 0 _ _ _ hB6; have r1 := cell_of_row w6 _ 1 _ _ _ hB6; have r2 := cell_of_row w6 _ 2 _ _ _ hB6; have r3 := cell_of_row w6 _ 3 _ _ _ hB6; have r4 := cell_of_row w6 _ 4 _ _ _ hB6; have r5 := cell_of_row w6 _ 5 _ _ _ hB6; have z0 := Lib.frozen_of_heap hB6 0; have z1 := Lib.frozen_of_heap hB6 1; have z2 := Lib.frozen_of_heap hB6 2; have z3 := Lib.frozen_of_heap hB6 3; have z4 := Lib.frozen_of_heap hB6 4; have z5 := Lib.frozen_of_heap hB6 5; clear hB6))
    have hsz : ∀ a0 a1 a2 a3 a4 a5, ((((((w6.setCell ⟨w.heap.size + 1, 0, none⟩ a0).setCell ⟨w.heap.size + 1, 1, none⟩ a1).setCell ⟨w.heap.size + 1, 2, none⟩ a2).setCell ⟨w.heap.size + 1, 3, none⟩ a3).setCell ⟨w.heap.size + 1, 4, none⟩ a4).setCell ⟨w.heap.size + 1, 5, none⟩ a5).heap.size = w6.heap.size := by intros; simp only [World.size_setCell]
    refine bodyPost_ret (v := .agg #[.int .i64 T.kind, .int .i64 T.pos, .string T.text, .bool T.neg, .slice AX T.mag.length cX, .slice KA T.kids.length KC]) (by simp [results, Tryz.results9, go_sem, r0, r1, r2, r3, r4, r5, z0, z1, z2, z3, z4, z5]) rfl ?_
    refine ⟨AX, cX, KA, KC, rfl, fun W hW => ?_, ?_⟩
    ·have hWW : ∀ k, w2.heap.size ≤ k → k < w6.heap.size → W.heap[k]? = w6.heap[k]? := fun k h1 h2 => (hW k lq29 (by rw [hsz]; exact h2) lq30).trans (heap_put6 w6 lq29 _ _ _ _ _ _)
     have hN := hNP.out; exact NodeAt.of ⟨by omega, hx2, (FrI.of_own (own_agree hown6 hWW)).rd, hN.2.2.2, hkc, hkm, hN.1, hN.2.1, hN.2.2.1, (hrow.later hb6).kids (own_laterT hown hb6) rfl hWW⟩
    ·exact below_put6 (hbw.trans (hb6.mono hbw.size)) lq29 _ _ _ _ _ _
theorem treeTells_any (T : Nd) (A : Option Addr) (c : Nat) (K : Option Addr) (d : Nat) (w : World) (hN : NodeAt w T A c K d) (hW : T.weight ≤ 1048576) (hT : Lib.Utf8Tabs 0 1 w) :
  Calls Tryz.prog 3 #[ndV T A c K d] w fun e w' => e = .returned (.bool true) ∧ Below w.heap.size w w' := by
 obtain ⟨hb1, c0, c1, c2, c3, c4, c5⟩ := bxn w T A c K d
 have hL := fun (W : World) (hb : Below w.heap.size w W) => large_ok T A c K d W (hN.later hb) hW
 have HA := Lh (fun (W : World) (hb : Below w.heap.size w W) => tAwake_ok W (Utf8Tabs_below hT hb))
 unfold ndV at hL
 unfold ndV
 by_cases hg : 3000 < T.weight
 ·rw [dTr hg] at hL; have HL := Lh hL; clear hL hN hW hT; go_enter Tryz.func3, Tryz.ntmps3
  go_wp2_with (first
   | (go_at_call 7; refine (HL.out _ hb1).mono ?_; rintro e v1 ⟨rfl, hq1⟩; have hv1 := hb1.trans (hq1.mono hb1.size))
   | (go_at_call 8; refine (HA.out _ hv1).mono ?_; rintro e v2 ⟨rfl, hq2⟩; have hv2 := hv1.trans (hq2.mono hv1.size)))
  go_ret; exact ⟨rfl, hv2⟩
 ·rw [dFa hg] at hL; have HL := Lh hL; have hC := fun (W : World) (hb : Below w.heap.size w W) => lcopied_ok T A c K d W (hN.later hb) hW
  unfold ndV at hC; have HC := Lh hC; have HN := Lh hN; clear hL hC hN; go_enter Tryz.func3, Tryz.ntmps3
  go_wp2_with (first
   | (go_at_call 7; refine (HL.out _ hb1).mono ?_; rintro e v1 ⟨rfl, hq1⟩; have hv1 := hb1.trans (hq1.mono hb1.size); obtain ⟨d0, d1, d2, d3, d4, d5⟩ := cl6 hq1 c0 c1 c2 c3 c4 c5)
   | (go_at_call 9; refine (HC.out _ hv1).mono ?_; rintro e w3 ⟨A2, c2', K2, d2', rfl, hF, hq3⟩; have hv3 := hv1.trans (hq3.mono hv1.size); obtain ⟨d0, d1, d2, d3, d4, d5⟩ := cl6 hq3 d0 d1 d2 d3 d4 d5))
  have hb4 := hv3.alloc hv3.size (.cells #[.int .i64 T.kind, .int .i64 T.pos, .string T.text, .bool T.neg, .slice A2 T.mag.length c2', .slice K2 T.kids.length d2'] 27); have hx4 := (Below.refl w3.heap.size w3).alloc (Nat.le_refl _) (.cells #[.int .i64 T.kind, .int .i64 T.pos, .string T.text, .bool T.neg, .slice A2 T.mag.length c2', .slice K2 T.kids.length d2'] 27); obtain ⟨f0, f1, f2, f3, f4, f5⟩ := (cellsN_new w3 T A2 c2' K2 d2' 27).box; have hNx := hF.now.later hx4; obtain ⟨d0, d1, d2, d3, d4, d5⟩ := cl6 hx4 d0 d1 d2 d3 d4 d5
  generalize w3.alloc (.cells #[.int .i64 T.kind, .int .i64 T.pos, .string T.text, .bool T.neg, .slice A2 T.mag.length c2', .slice K2 T.kids.length d2'] 27) = w4 at *
  have HBX := Lh (fun (W : World) (hb : Below w4.heap.size w4 W) => show _ ∧ _ ∧ _ ∧ _ ∧ _ ∧ _ ∧ _ ∧ _ ∧ _ ∧ _ ∧ _ ∧ _ from ⟨cLt hb d0, cLt hb d1, cLt hb d2, cLt hb d3, cLt hb d4, cLt hb d5, cLt hb f0, cLt hb f1, cLt hb f2, cLt hb f3, cLt hb f4, cLt hb f5⟩); have hn4 := HN.out.later hb4; have k1 := fun (W : World) (hb : Below w4.heap.size w4 W) => tCheck_ok T A2 c2' K2 d2' W (hNx.later hb) lq29 (Utf8Tabs_below hT (hb4.trans (hb.mono hb4.size)))
  have k2 := fun (W : World) (hb : Below w4.heap.size w4 W) => tDepth_ok T A2 c2' K2 d2' W (hNx.later hb) lq29
  have k3 := fun (W : World) (hb : Below w4.heap.size w4 W) => tSize_ok T A2 c2' K2 d2' W (hNx.later hb) lq29
  have k4 := fun (W : World) (hb : Below w4.heap.size w4 W) => tPrint_ok T A2 c2' K2 d2' W (hNx.later hb) lq29 (Utf8Tabs_below hT (hb4.trans (hb.mono hb4.size)))
  have k5 := fun (W : World) (hb : Below w4.heap.size w4 W) => rCheck_ok T A c K d W (hn4.later hb) lq29
  have k6 := fun (W : World) (hb : Below w4.heap.size w4 W) => refFull_ok T A c K d W (hn4.later hb) lq29
  have k7 := fun (W : World) (hb : Below w4.heap.size w4 W) => refSize_ok T A c K d W (hn4.later hb) lq29
  have k8 := fun (W : World) (hb : Below w4.heap.size w4 W) => rPrint_ok T A c K d W (hn4.later hb) lq29
  have k9 := fun (W : World) (hb : Below w4.heap.size w4 W) => same_ok true T.depth T T (Alike.refl _ _) (Nat.le_refl _) A2 c2' K2 d2' A c K d W (hNx.later hb) (hn4.later hb)
  have k10 := fun (W : World) (hb : Below w4.heap.size w4 W) => HA.out W (hb4.trans (hb.mono hb4.size))
  unfold ndV at k1 k2 k3 k4 k5 k6 k7 k8 k9; have K1 := Lh k1; have KK2 := Lh k2; have K3 := Lh k3; have K4 := Lh k4; have K5 := Lh k5; have K6 := Lh k6; have K7 := Lh k7; have K8 := Lh k8; have K9 := Lh k9; have K10 := Lh k10; have H4 := Lh hb4; clear k1 k2 k3 k4 k5 k6 k7 k8 k9 k10 hNx hn4 hF hb4 hx4 hq3 hv3 hq1 hv1 hb1 c0 c1 c2 c3 c4 c5 HL HC HN HA hT
  refine (K1.out _ (Below.refl _ _)).mono ?_
  rintro e v1 ⟨rfl, hv1⟩; obtain ⟨d0, d1, d2, d3, d4, d5, f0, f1, f2, f3, f4, f5⟩ := HBX.out v1 hv1
  go_wp2_with (first
   | (go_at_call 11; refine (KK2.out _ (hv1)).mono ?_; rintro e v2 ⟨rfl, hq2⟩; have hv2 := (hv1).trans (hq2.mono (hv1).size); obtain ⟨d0, d1, d2, d3, d4, d5, f0, f1, f2, f3, f4, f5⟩ := HBX.out v2 hv2)
   | (go_at_call 12; refine (K3.out _ (hv2)).mono ?_; rintro e v3 ⟨rfl, hq3⟩; have hv3 := (hv2).trans (hq3.mono (hv2).size); obtain ⟨d0, d1, d2, d3, d4, d5, f0, f1, f2, f3, f4, f5⟩ := HBX.out v3 hv3)
   | (go_at_call 13; refine (K4.out _ (hv3)).mono ?_; rintro e v4 ⟨rfl, hq4⟩; have hv4 := (hv3).trans (hq4.mono (hv3).size); obtain ⟨d0, d1, d2, d3, d4, d5, f0, f1, f2, f3, f4, f5⟩ := HBX.out v4 hv4)
   | (go_at_call 14; refine (K5.out _ (hv4)).mono ?_; rintro e v5 ⟨rfl, hq5⟩; have hv5 := (hv4).trans (hq5.mono (hv4).size); obtain ⟨d0, d1, d2, d3, d4, d5, f0, f1, f2, f3, f4, f5⟩ := HBX.out v5 hv5)
   | (go_at_call 15; refine (K6.out _ (hv5)).mono ?_; rintro e v6 ⟨rfl, hq6⟩; have hv6 := (hv5).trans (hq6.mono (hv5).size); obtain ⟨d0, d1, d2, d3, d4, d5, f0, f1, f2, f3, f4, f5⟩ := HBX.out v6 hv6)
   | (go_at_call 16; refine (K7.out _ (hv6)).mono ?_; rintro e v7 ⟨rfl, hq7⟩; have hv7 := (hv6).trans (hq7.mono (hv6).size); obtain ⟨d0, d1, d2, d3, d4, d5, f0, f1, f2, f3, f4, f5⟩ := HBX.out v7 hv7)
   | (go_at_call 17; refine (K8.out _ (hv7)).mono ?_; rintro e v8 ⟨rfl, hq8⟩; have hv8 := (hv7).trans (hq8.mono (hv7).size); obtain ⟨d0, d1, d2, d3, d4, d5, f0, f1, f2, f3, f4, f5⟩ := HBX.out v8 hv8)
   | (go_at_call 18; refine (K9.out _ (hv8)).mono ?_; rintro e v9 ⟨rfl, hq9⟩; have hv9 := (hv8).trans (hq9.mono (hv8).size); obtain ⟨d0, d1, d2, d3, d4, d5, f0, f1, f2, f3, f4, f5⟩ := HBX.out v9 hv9)
   | (go_at_call 8; refine (K10.out _ (hv9)).mono ?_; rintro e v10 ⟨rfl, hq10⟩; have hv10 := (hv9).trans (hq10.mono (hv9).size); obtain ⟨d0, d1, d2, d3, d4, d5, f0, f1, f2, f3, f4, f5⟩ := HBX.out v10 hv10))
  go_ret; exact ⟨rfl, H4.out.trans (hv10.mono H4.out.size)⟩
end
section
open Go.Shelf
open List (length_append length_cons length_nil length_singleton)
def u8ren : Ren := ⟨fun n => n, fun | 5 => 5 | 119 => 164 | 138 => 166 | 139 => 167 | n => n, fun | 3 => 0 | 4 => 1 | n => n⟩
theorem u8types : U8Types Tryz.prog u8ren := ⟨Tryz.underlying5, Tryz.underlying164, by kernel_rfl, Tryz.underlying167⟩
theorem u8extra : U8Extra Tryz.prog u8ren := ⟨by kernel_rfl, by kernel_rfl, by kernel_rfl, by kernel_rfl, by kernel_rfl, by kernel_rfl, by kernel_rfl⟩
theorem firstEq : Rows.laid_unicode_utf8_first = Lib.firstData := by kernel_rfl
theorem acceptEq : (Rows.laid_unicode_utf8_acceptRanges : DataW Unit) = Lib.acceptData := by kernel_rfl
theorem tabs_of {w : World} (h : laidMet Tryz.prog [("unicode/utf8.acceptRanges", Rows.laid_unicode_utf8_acceptRanges), ("unicode/utf8.first", Rows.laid_unicode_utf8_first)] w) : Lib.Utf8Tabs 0 1 w := by
 rw [firstEq, acceptEq] at h
 exact utf8Tabs_of_readsT u8types u8extra (Lib.laidMet.reads h (.tail _ (.head _))) (Lib.laidMet.reads h (.head _))
noncomputable def laidWorld (os : Os) : World :=
 let w0 := World.holding Tryz.prog os ⟨#[], #[], []⟩
 let put (h : Array Obj) (g : Nat) (cs : Array Value) : Array Obj := h.modify g fun
  | .cells _ t frozen => .cells cs t frozen
  | o => o
 let h1 := put w0.heap 0 (Lib.firstTab.map fun z => Value.int .u8 z).toArray
 let h2 := put h1 1 ((List.range 16).flatMap fun i => [Value.int .u8 (Lib.accLo i), Value.int .u8 (Lib.accHi i)]).toArray
 { w0 with heap := h2 }
theorem laid_met (os : Os) (args : Array Value) : laidMet Tryz.prog [("unicode/utf8.acceptRanges", Rows.laid_unicode_utf8_acceptRanges), ("unicode/utf8.first", Rows.laid_unicode_utf8_first)] ((laidWorld os).forCall (fun _ _ => 0) ⟨#[], args, []⟩).memory :=
 (LaidIn.of_run (l := [("unicode/utf8.acceptRanges", Rows.laid_unicode_utf8_acceptRanges), ("unicode/utf8.first", Rows.laid_unicode_utf8_first)]) [0, 1] 8 lq27 lq27 lq27 lq27).met
end
section
open Go.ChangeShapes Go.WideShapes Go.ChangeAt Go.RowKit Go.Joins
open List (length_append length_cons length_nil length_singleton)
theorem addr_litT {w : World} {x : Addr} {v : Value} (h : w.cell? x = some v) : x = ⟨x.block, x.off, none⟩ := by
 obtain ⟨b, o, s⟩ := x
 cases s with
 | none => rfl
 | some s => simp [World.cell?] at h; split at h <;> simp at h
theorem add_zeroT (x : Addr) : x.add 0 = x := by simp [Addr.add]
theorem cells_atT {w : World} {base : Nat} {a : Addr} {n : Nat} {cs : List Value} (h : w.cells? base a n = some cs) (hn : 0 < n) : a = ⟨a.block, a.off, none⟩ ∧ cs.length = n ∧ ∀ i, i < n → w.cell? ⟨a.block, a.off + i, none⟩ = cs[i]? := by
 obtain ⟨_, h1, h2⟩ := World.cells?_some h
 obtain ⟨v, hv⟩ : ∃ v, cs[0]? = some v := ⟨_, gEo⟩
 have ha := addr_litT (x := a) (by rw [← hv, ← h2 0 hn, add_zeroT])
 refine ⟨ha, h1, fun i hi => ?_⟩
 have := h2 i hi
 rw [ha, Addr.add_lit] at this
 exact this
theorem rdI_cellsT {w : World} {k : IntKind} {x : Addr} {zs : List Int} (hc : ∀ i, i < zs.length → w.cell? (x.add i) = some (.int k (zs.getD i 0))) (n : Nat) : RdI w k (some x) (zs.take n) := fun i hi => by
 have hi' : i < n ∧ i < zs.length := by simpa [List.length_take, Nat.lt_min] using hi
 have h0 := hc 0 lq29
 have hx : x = ⟨x.block, x.off, none⟩ := by
  have := addr_litT h0; rw [add_zeroT] at this; exact this
 refine ⟨x.block, x.off, zs[i], by rw [← hx], ?_, ?_⟩
 ·rw [List.getElem?_take_of_lt hi'.1, List.getElem?_eq_getElem hi'.2]
 ·have := hc i hi'.2; rw [hx, Addr.add_lit] at this; rw [this]
  simp [List.getElem?_eq_getElem hi'.2]
theorem bulk_lits {H : Type} (k : IntKind) : ∀ zs : List Int, Rows.uptoBulkAll (lits k zs : List (DataW H)) = zs.length
 | [] => rfl
 | z :: zs => by
  have := bulk_lits (H := H) k zs
  show Rows.uptoBulk (DataW.lit (.int k z)) + Rows.uptoBulkAll (lits k zs) = _
  rw [this]
  simp [Rows.uptoBulk]
  omega
theorem weights_bulk {H : Type} : ∀ (ks : List Nd) (ds : List (DataW H)), ks.length = ds.length → (∀ (i : Nat) (t : Nd) (D : DataW H), ks[i]? = some t → ds[i]? = some D → t.weight ≤ Rows.uptoBulk D) → weights ks ≤ Rows.uptoBulkAll ds
 | [], _, _, _ => by rw [weights]; exact Nat.zero_le _
 | t :: r, [], h, _ => by simp at h
 | t :: r, D :: ds, h, hx => by
  rw [weights, Rows.uptoBulkAll]; have h1 := hx 0 t D rfl rfl; have h2 := weights_bulk r ds (by simpa using h) (fun i t D hi hD => hx (i + 1) t D (by simpa using hi) (by simpa using hD))
  omega
section
variable {H : Type} {enc : TypeId × Value → H} {w : World} {base : Nat} {spare : Nat → Bool} {held : Bool}
theorem trod_magT {n : Nat} {cs : List Value} {y : DataW H × List MemPlace} (h : DataW.trod enc Tryz.prog w base spare held n 22 cs = some y) :
  ∃ A c m, cs = [.slice A m.length c] ∧ m.length ≤ c ∧ c ≤ maxLen ∧ RdI w .u32 A m ∧ (∀ z ∈ m, 0 ≤ z ∧ z < 4294967296) ∧ m.length ≤ Rows.uptoBulk y.1 := by
 rcases open_ints Tryz.underlying22 Tryz.underlying61 lq27 h with ⟨rfl, rfl⟩ | ⟨x, l, c, zs, rfl, _, hl, hm, hz, rfl, hcell, hwz⟩
 ·exact ⟨none, 0, [], rfl, Nat.le_refl _, Nat.zero_le _, RdI.nil _ _ _, fun z hz => by simp at hz, Nat.zero_le _⟩
 ·have hzl : l ≤ zs.length := by rw [hz]; split <;> omega
  have hul : (zs.take l).length = l := by rw [List.length_take]; omega
  refine ⟨some x, c, zs.take l, by rw [hul], by omega, hm, rdI_cellsT hcell l, fun z hz => ?_, ?_⟩
  ·have hb : 0 ≤ z ∧ z ≤ 4294967295 := by simpa [Lit.wf, IntKind.min, IntKind.max, IntKind.signed, IntKind.bits] using hwz z (List.mem_of_mem_take hz)
   omega
  ·show _ ≤ Rows.uptoBulk (DataW.slice (lits .u32 (zs.take l)) (lits .u32 (zs.drop l)))
   rw [Rows.uptoBulk, bulk_lits]
   omega
theorem trod_nodeT : ∀ (n : Nat) {cs : List Value} {y : DataW H × List MemPlace}, DataW.trod enc Tryz.prog w base spare held n 27 cs = some y →
  ∃ T A c K d, cs = ndC T A c K d ∧ NodeAt w T A c K d ∧ T.weight ≤ Rows.uptoBulk y.1
 | 0, cs, y, h => by simp [DataW.trod] at h
 | n + 1, cs, y, h => by
  obtain ⟨xs, n', hn, rfl, hl, hlen, hx⟩ := DataW.trod_struct Tryz.underlying27 h; rw [show Tryz.prog.cellsOf 27 = 6 by kernel_rfl] at hl; injection hn with hn
  subst hn
  match xs, hlen, hx with
  | [y0, y1, y2, y3, y4], _, hx =>
  match cs, hl with
  | [v0, v1, v2, v3, v4, v5], _ =>
  have q0 : DataW.trod enc Tryz.prog w base spare held n 3 (List.take (Tryz.prog.cellsOf 3) (List.drop 0 [v0, v1, v2, v3, v4, v5])) = some y0 := hx 0 _ rfl; have q1 : DataW.trod enc Tryz.prog w base spare held n 3 (List.take (Tryz.prog.cellsOf 3) (List.drop 1 [v0, v1, v2, v3, v4, v5])) = some y1 := hx 1 _ rfl; have q2 : DataW.trod enc Tryz.prog w base spare held n 9 (List.take (Tryz.prog.cellsOf 9) (List.drop 2 [v0, v1, v2, v3, v4, v5])) = some y2 := hx 2 _ rfl
  have q3 : DataW.trod enc Tryz.prog w base spare held n 24 (List.take (Tryz.prog.cellsOf 24) (List.drop 3 [v0, v1, v2, v3, v4, v5])) = some y3 := hx 3 _ rfl; have q4 : DataW.trod enc Tryz.prog w base spare held n 25 (List.take (Tryz.prog.cellsOf 25) (List.drop 5 [v0, v1, v2, v3, v4, v5])) = some y4 := hx 4 _ rfl; rw [show Tryz.prog.cellsOf 3 = 1 by kernel_rfl] at q0 q1; rw [show Tryz.prog.cellsOf 9 = 1 by kernel_rfl] at q2; rw [show Tryz.prog.cellsOf 24 = 2 by kernel_rfl] at q3; rw [show Tryz.prog.cellsOf 25 = 1 by kernel_rfl] at q4; obtain ⟨k, e0, r0, f0⟩ := DataW.trod_int Tryz.underlying3 q0
  obtain ⟨a, e1, r1, f1⟩ := DataW.trod_int Tryz.underlying3 q1; obtain ⟨s, e2, r2, f2⟩ := DataW.trod_string Tryz.underlying9 q2; obtain ⟨z0, z1, n3, e3, l3, g0, g1⟩ := trod_struct2 Tryz.underlying24 q3; rw [show Tryz.prog.cellsOf 4 = 1 by kernel_rfl] at g0; rw [show Tryz.prog.cellsOf 22 = 1 by kernel_rfl] at g1; obtain ⟨b, e4, r4⟩ := DataW.trod_bool Tryz.underlying4 g0; obtain ⟨A, c, m, e5, m1, m2, m3, m4, m5⟩ := trod_magT g1; have w0 : I64 k := by
   unfold I64
   simpa [Lit.wf, IntKind.min, IntKind.max, IntKind.signed, IntKind.bits] using f0
  have w1 : I64 a := by
   unfold I64
   simpa [Lit.wf, IntKind.min, IntKind.max, IntKind.signed, IntKind.bits] using f1
  have e0' : v0 = .int .i64 k := by simpa using e0
  have e1' : v1 = .int .i64 a := by simpa using e1
  have e2' : v2 = .string s := by simpa using e2
  have e4' : v3 = .bool b := by simpa using e4
  have e5' : v4 = .slice A m.length c := by simpa using e5
  have hbm : m.length ≤ Rows.uptoBulk y3.1 := by
   rw [e3]; simp only [Rows.uptoBulk, Rows.uptoBulkAll]
   omega
  have hbs : s.size ≤ Rows.uptoBulk y2.1 := by
   rw [r2]
   simp [Rows.uptoBulk]
  have done : ∀ (K : Option Addr) (d : Nat) (ks : List Nd), v5 = .slice K ks.length d → ks.length ≤ d → d ≤ maxLen → KidsAt w ks K 0 → weights ks ≤ Rows.uptoBulk y4.1 → ∃ T A c K d, [v0, v1, v2, v3, v4, v5] = ndC T A c K d ∧ NodeAt w T A c K d ∧ T.weight ≤ Rows.uptoBulk (DataW.agg ([y0, y1, y2, y3, y4].map (·.1))) := fun K d ks hv hd1 hd2 hK hw =>
   ⟨.mk k a s b m ks, A, c, K, d, by rw [e0', e1', e2', e4', e5', hv]; rfl, NodeAt.of ⟨m1, m2, m3, m4, hd1, hd2, w0, w1, f2, hK⟩, by
    rw [Nd.weight]; simp only [List.map_cons, List.map_nil, Rows.uptoBulk, Rows.uptoBulkAll]
    omega⟩
  rcases DataW.trod_slice Tryz.underlying25 q4 with ⟨hv, hy⟩ | ⟨ad, len, cap, elems, rest, n4, hn4, hv, hy, _, hlc, hcm, hle, hel, _, _⟩
  ·exact done none 0 [] (by simpa using hv) (Nat.le_refl _) (Nat.zero_le _) (by rw [KidsAt]; trivial) (by rw [weights]; exact Nat.zero_le _)
  ·rw [show Tryz.prog.cellsOf 27 = 6 by kernel_rfl] at hel; have had : 0 < len → ad = ⟨ad.block, ad.off, none⟩ := by
    intro h0; obtain ⟨D, hD⟩ : ∃ D, elems[0]? = some D := ⟨_, gEo⟩; have h1 := hel 0 h0; rw [hD, Option.bind_eq_some_iff] at h1; obtain ⟨cs', h2, _⟩ := h1; have := (cells_atT h2 lq28).1; rw [Nat.zero_mul, add_zeroT] at this; exact this
   have each : ∀ i, i < len → ∃ q : Nd × Option Addr × Nat × Option Addr × Nat, ∃ D, elems[i]? = some D ∧ CellsN w ad.block (ad.off + i * 6) q.1 q.2.1 q.2.2.1 q.2.2.2.1 q.2.2.2.2 ∧ ad = ⟨ad.block, ad.off, none⟩ ∧ NodeAt w q.1 q.2.1 q.2.2.1 q.2.2.2.1 q.2.2.2.2 ∧ q.1.weight ≤ Rows.uptoBulk D.1 := by
    intro i hi; obtain ⟨D, hD⟩ : ∃ D, elems[i]? = some D := ⟨_, gEo⟩; have h1 := hel i hi; rw [hD, Option.bind_eq_some_iff] at h1; obtain ⟨cs', h2, h3⟩ := h1; have h4 : n4 < n + 1 := by omega
    obtain ⟨T, A', c', K', d', hc, hN, hW⟩ := trod_nodeT n4 h3; obtain ⟨ha, _, hcell⟩ := cells_atT h2 lq28; have had := had lq29; have hab : ad.add (i * 6) = ⟨ad.block, ad.off + i * 6, none⟩ := by
     rw [had]; exact Addr.add_lit _ _ _
    rw [hab] at hcell; rw [hc] at hcell; exact ⟨(T, A', c', K', d'), D, hD, ⟨hcell 0 lq28, hcell 1 lq28, hcell 2 lq28, hcell 3 lq28, hcell 4 lq28, hcell 5 lq28⟩, had, hN, hW⟩
   obtain ⟨f, hf⟩ : ∃ f : Nat → Nd × Option Addr × Nat × Option Addr × Nat, ∀ i, i < len → ∃ D, elems[i]? = some D ∧ CellsN w ad.block (ad.off + i * 6) (f i).1 (f i).2.1 (f i).2.2.1 (f i).2.2.2.1 (f i).2.2.2.2 ∧ ad = ⟨ad.block, ad.off, none⟩ ∧ NodeAt w (f i).1 (f i).2.1 (f i).2.2.1 (f i).2.2.2.1 (f i).2.2.2.2 ∧ (f i).1.weight ≤ Rows.uptoBulk D.1 := by
    classical
    refine ⟨fun i => if hi : i < len then Classical.choose (each i hi) else (.mk 0 0 ⟨#[]⟩ false [] [], none, 0, none, 0), fun i hi => ?_⟩
    simp only [dif_pos hi]; exact Classical.choose_spec (each i hi)
   have hkl : ((List.range len).map fun i => (f i).1).length = len := by simp
   refine done (some ad) cap ((List.range len).map fun i => (f i).1) (by rw [hkl]; simpa using hv) lq29 hcm (KidsAt.of fun i t hi => ?_) ?_
   ·have hil : i < len := by have := (List.getElem?_eq_some_iff.1 hi).1; omega
    obtain ⟨D, _, hC, had, hN, _⟩ := hf i hil; have ht : (f i).1 = t := by simpa [hil] using hi
    subst ht; exact ⟨ad.block, ad.off, _, _, _, _, by rw [← had], by rw [Nat.zero_add]; exact hC, hN⟩
   ·rw [hy]
    show _ ≤ Rows.uptoBulk (DataW.slice _ _)
    rw [Rows.uptoBulk]
    have := weights_bulk ((List.range len).map fun i => (f i).1) (elems.map (·.1)) (by simp [hle]) (fun i t D hi hD => by
     have hil : i < len := by have := (List.getElem?_eq_some_iff.1 hi).1; omega
     obtain ⟨D', h1, _, _, _, h2⟩ := hf i hil; have ht : (f i).1 = t := by simpa [hil] using hi
     rw [List.getElem?_map, h1] at hD
     simp at hD
     rw [← ht, ← hD]
     exact h2)
    omega
termination_by n => n
end
end
end Go.Proofs.YtjefhdlncikhmaaGreatDoor
