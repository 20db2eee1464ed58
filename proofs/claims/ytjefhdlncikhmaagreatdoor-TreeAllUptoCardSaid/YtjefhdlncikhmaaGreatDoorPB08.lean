/- Joined by a program: Shp8a, Shp8b, Shp8c, Shp8d, Shp9, Prm, Def. -/
import Derived.WalkKit
import Derived.Deep.RegionHeld3
import Derived.Deep.RegionWith
import Derived.Test.YtjefhdlncikhmaaGreatDoorShelf
import Derived.Test.YtjefhdlncikhmaaGreatDoorPB07
namespace Go.Proofs.YtjefhdlncikhmaaGreatDoor
section
set_option linter.unusedVariables false
set_option linter.unusedSimpArgs false
open Go.RowKit
set_option maxRecDepth 1000000
set_option maxHeartbeats 16000000 in
theorem exA_ok (D : Nat) (hRi : RightOk D) (T : Nd) (A : Option Addr) (c : Nat) (K : Option Addr) (d : Nat) (w : World) (hD : T.depth ≤ D + 1) (hW : T.weight ≤ 1048576) (hN : NodeAt w T A c K d) (hT : Lib.Utf8Tabs 0 1 w) (hr1 : rowB T.kids [(Sh.or2 .none .expr).ev Nd.right, Sh.block.ev Nd.right] = false) :
    Calls Tryz.prog 78 #[ndV T A c K d] w fun e w' => e = .returned (.bool false) ∧ Below w.heap.size w w' := by
  have hWi := within_kids hD hW
  have hkp := hN.parts
  have hbx := (Below.refl w.heap.size w).alloc (Nat.le_refl _) (.cells #[.int .i64 T.kind, .int .i64 T.pos, .string T.text, .bool T.neg, .slice A T.mag.length c, .slice K T.kids.length d] 27)
  have HRow := Lib.hid (fun W (hb : Below (w.alloc (.cells #[.int .i64 T.kind, .int .i64 T.pos, .string T.text, .bool T.neg, .slice A T.mag.length c, .slice K T.kids.length d] 27)).heap.size (w.alloc (.cells #[.int .i64 T.kind, .int .i64 T.pos, .string T.text, .bool T.neg, .slice A T.mag.length c, .slice K T.kids.length d] 27)) W) (L : List (Nd → Bool)) (m : Nat) A hm hL hmc => row_ok D T.kids T.kids.length K d L m A m W rfl (hkp.2.2.2.2.2.2.2.2.2.later (hbx.trans (hb.mono hbx.size))) hWi hm hL hkp.2.2.2.2.1 hkp.2.2.2.2.2.1 (Nat.le_refl _) hmc)
  have HT := Lib.hid (Utf8Tabs_below hT hbx)
  have HRi := Lib.hid hRi
  have htx : T.text.size ≤ 1048576 := by have := T.weight_eq; omega
  have HNm := Lib.hid (fun W => isName_ok T.text W (by omega))
  have HTE := Lib.hid (text_empty T.text)
  clear hkp hWi hT hRi htx
  have HR1 := Lib.hid hr1
  clear hr1 hbx
  obtain ⟨hm1, hm2, hrm, hw32, hk1, hk2, hk64, ha64, hts, hKs⟩ := hN.parts
  unfold maxLen at hm2 hk2 hts
  obtain ⟨hk64a, hk64b⟩ := hk64
  obtain ⟨ha64a, ha64b⟩ := ha64
  have HK := Lib.hid (fun (i : Nat) (t : Nd) (hi : T.kids[i]? = some t) => hN.kid hi)
  have hb1 := (Below.refl w.heap.size w).alloc (Nat.le_refl _) (.cells #[.int .i64 T.kind, .int .i64 T.pos, .string T.text, .bool T.neg, .slice A T.mag.length c, .slice K T.kids.length d] 27)
  obtain ⟨c0, c1, c2, c3, c4, c5⟩ := (cellsN_new w T A c K d 27).box
  unfold ndV
  clear hKs hN
  go_enter Tryz.func78, Tryz.ntmps78
  go_wp2_with fail
  generalize w.alloc (.cells #[.int .i64 T.kind, .int .i64 T.pos, .string T.text, .bool T.neg, .slice A T.mag.length c, .slice K T.kids.length d] 27) = w1 at *
  have hwl : w.heap.size < w1.heap.size := World.block_lt_of_cell? _ _ c5
  have hun : undef = Value.tuple #[] := rfl
  first | go_region_with (first | (go_at_call 69; refine (or2_ok D _ _ _ .none .expr rfl (by first | exact shapes_two (shNone D _) (shExpr HRi.out (Utf8Tabs_below HT.out (by (repeat' (first  | with_reducible exact Below.refl _ _ | (with_reducible refine Below.alloc ?_ ?_ _) | (with_reducible refine below_drew ?_))); all_goals (first  | omega | (simp; done) | (simp; omega) )))) _ _ (by simp) | exact ShapesAt.later (shapes_two (shNone D _) (shExpr HRi.out (Utf8Tabs_below HT.out (by (repeat' (first  | with_reducible exact Below.refl _ _ | (with_reducible refine Below.alloc ?_ ?_ _) | (with_reducible refine below_drew ?_))); all_goals (first  | omega | (simp; done) | (simp; omega) )))) _ _ (by simp)) (below_drew (Below.refl _ _)) | exact ShapesAt.later (shapes_two (shNone D _) (shExpr HRi.out (Utf8Tabs_below HT.out (by (repeat' (first  | with_reducible exact Below.refl _ _ | (with_reducible refine Below.alloc ?_ ?_ _) | (with_reducible refine below_drew ?_))); all_goals (first  | omega | (simp; done) | (simp; omega) )))) _ _ (by simp)) (below_drew (below_drew (Below.refl _ _))))).mono ?_; rintro e w3 ⟨⟨v, rfl, hv⟩, hb3⟩; have hv' := hv; obtain ⟨f1, cp1, hv1, _⟩ := hv'; subst hv1; have H1 := below_then (w1 := w1) hb3 (by (repeat' (first  | with_reducible exact Below.refl _ _ | (with_reducible refine Below.alloc ?_ ?_ _) | (with_reducible refine below_drew ?_))); all_goals (first  | omega | (simp; done) | (simp; omega) )); have a5 := cell_later H1 c5; have a2 := cell_later H1 c2; have hl3 : w.heap.size < w3.heap.size := Nat.lt_of_lt_of_le hwl H1.size) | (go_at_call 127; refine (HRow.out _ (by (repeat' (first | with_reducible exact H1 | with_reducible exact Below.refl _ _ | (with_reducible refine Below.alloc ?_ ?_ _) | (with_reducible refine below_drew ?_))); all_goals (first | exact H1.size | omega | (simp; done) | (simp; omega) | (have := H1.size; simp; omega))) [(Sh.or2 .none .expr).ev Nd.right, Sh.block.ev Nd.right] 2 _ rfl (by first | exact shapes_two (hv.later (by first | exact Below.refl _ _ | exact below_drew (Below.refl _ _) | exact below_drew (below_drew (Below.refl _ _)))) (shBlock HRi.out (Utf8Tabs_below HT.out (by (repeat' (first | with_reducible exact H1 | with_reducible exact Below.refl _ _ | (with_reducible refine Below.alloc ?_ ?_ _) | (with_reducible refine below_drew ?_))); all_goals (first | exact H1.size | omega | (simp; done) | (simp; omega) | (have := H1.size; simp; omega))))) _ _ (by simp) | exact ShapesAt.later (shapes_two (hv.later (by first | exact Below.refl _ _ | exact below_drew (Below.refl _ _) | exact below_drew (below_drew (Below.refl _ _)))) (shBlock HRi.out (Utf8Tabs_below HT.out (by (repeat' (first | with_reducible exact H1 | with_reducible exact Below.refl _ _ | (with_reducible refine Below.alloc ?_ ?_ _) | (with_reducible refine below_drew ?_))); all_goals (first | exact H1.size | omega | (simp; done) | (simp; omega) | (have := H1.size; simp; omega))))) _ _ (by simp)) (below_drew (Below.refl _ _)) | exact ShapesAt.later (shapes_two (hv.later (by first | exact Below.refl _ _ | exact below_drew (Below.refl _ _) | exact below_drew (below_drew (Below.refl _ _)))) (shBlock HRi.out (Utf8Tabs_below HT.out (by (repeat' (first | with_reducible exact H1 | with_reducible exact Below.refl _ _ | (with_reducible refine Below.alloc ?_ ?_ _) | (with_reducible refine below_drew ?_))); all_goals (first | exact H1.size | omega | (simp; done) | (simp; omega) | (have := H1.size; simp; omega))))) _ _ (by simp)) (below_drew (below_drew (Below.refl _ _)))) (by unfold maxLen; omega)).mono ?_; rintro e w4 ⟨he4, hb4⟩; rw [HR1.out] at he4; subst he4; have H2 := below_then (w1 := w1) hb4 (by (repeat' (first | with_reducible exact H1 | with_reducible exact Below.refl _ _ | (with_reducible refine Below.alloc ?_ ?_ _) | (with_reducible refine below_drew ?_))); all_goals (first | exact H1.size | omega | (simp; done) | (simp; omega) | (have := H1.size; simp; omega))); have b5 := cell_later H2 c5; have b2 := cell_later H2 c2; have hl4 : w.heap.size < w4.heap.size := Nat.lt_of_lt_of_le hwl H2.size)) | fail
  all_goals
    go_wp2
    go_ret
    exact ⟨rfl, hb1.trans (H2.mono hb1.size)⟩
end
section
set_option linter.unusedVariables false
set_option linter.unusedSimpArgs false
open Go.RowKit
set_option maxRecDepth 1000000
set_option maxHeartbeats 16000000 in
theorem exB_ok (D : Nat) (hRi : RightOk D) (T : Nd) (A : Option Addr) (c : Nat) (K : Option Addr) (d : Nat) (w : World) (hD : T.depth ≤ D + 1) (hW : T.weight ≤ 1048576) (hN : NodeAt w T A c K d) (hT : Lib.Utf8Tabs 0 1 w) (hr1 : rowB T.kids [(Sh.or2 .none .expr).ev Nd.right, Sh.block.ev Nd.right] = true) (q : Nd) (hq : T.kids[0]? = some q) (hte : (T.text.size == 0) = true) :
    Calls Tryz.prog 78 #[ndV T A c K d] w fun e w' => e = .returned (.bool true) ∧ Below w.heap.size w w' := by
  have hWi := within_kids hD hW
  have hkp := hN.parts
  have hbx := (Below.refl w.heap.size w).alloc (Nat.le_refl _) (.cells #[.int .i64 T.kind, .int .i64 T.pos, .string T.text, .bool T.neg, .slice A T.mag.length c, .slice K T.kids.length d] 27)
  have HRow := Lib.hid (fun W (hb : Below (w.alloc (.cells #[.int .i64 T.kind, .int .i64 T.pos, .string T.text, .bool T.neg, .slice A T.mag.length c, .slice K T.kids.length d] 27)).heap.size (w.alloc (.cells #[.int .i64 T.kind, .int .i64 T.pos, .string T.text, .bool T.neg, .slice A T.mag.length c, .slice K T.kids.length d] 27)) W) (L : List (Nd → Bool)) (m : Nat) A hm hL hmc => row_ok D T.kids T.kids.length K d L m A m W rfl (hkp.2.2.2.2.2.2.2.2.2.later (hbx.trans (hb.mono hbx.size))) hWi hm hL hkp.2.2.2.2.1 hkp.2.2.2.2.2.1 (Nat.le_refl _) hmc)
  have HT := Lib.hid (Utf8Tabs_below hT hbx)
  have HRi := Lib.hid hRi
  have htx : T.text.size ≤ 1048576 := by have := T.weight_eq; omega
  have HNm := Lib.hid (fun W => isName_ok T.text W (by omega))
  have HTE := Lib.hid (text_empty T.text)
  clear hkp hWi hT hRi htx
  have HR1 := Lib.hid hr1
  have hl2 : T.kids.length = 2 := by
    rcases Nat.decEq T.kids.length 2 with h | h
    · rw [rowB_len h] at hr1; cases hr1
    · exact h
  obtain ⟨b, off, A', c', K', d', hKe, hC, _⟩ := hN.kid hq
  rw [Nat.zero_mul, Nat.add_zero] at hC
  subst hKe
  have kk1 := cell_later hbx hC.1
  clear hr1 hq hbx hC
  have i0 : (0 : Int) < (T.kids.length : Int) := by omega
  have i1 : 0 < T.kids.length := by omega
  clear hl2
  have e1 : T.text.toList.isEmpty = true := by rw [HTE.out, hte]
  obtain ⟨hm1, hm2, hrm, hw32, hk1, hk2, hk64, ha64, hts, hKs⟩ := hN.parts
  unfold maxLen at hm2 hk2 hts
  obtain ⟨hk64a, hk64b⟩ := hk64
  obtain ⟨ha64a, ha64b⟩ := ha64
  have HK := Lib.hid (fun (i : Nat) (t : Nd) (hi : T.kids[i]? = some t) => hN.kid hi)
  have hb1 := (Below.refl w.heap.size w).alloc (Nat.le_refl _) (.cells #[.int .i64 T.kind, .int .i64 T.pos, .string T.text, .bool T.neg, .slice A T.mag.length c, .slice (some ⟨b, off, none⟩) T.kids.length d] 27)
  obtain ⟨c0, c1, c2, c3, c4, c5⟩ := (cellsN_new w T A c (some ⟨b, off, none⟩) d 27).box
  unfold ndV
  clear hKs hN
  go_enter Tryz.func78, Tryz.ntmps78
  go_wp2_with fail
  generalize w.alloc (.cells #[.int .i64 T.kind, .int .i64 T.pos, .string T.text, .bool T.neg, .slice A T.mag.length c, .slice (some ⟨b, off, none⟩) T.kids.length d] 27) = w1 at *
  have hwl : w.heap.size < w1.heap.size := World.block_lt_of_cell? _ _ c5
  have hun : undef = Value.tuple #[] := rfl
  have kk0 := kk1
  have hbl : b < w1.heap.size := World.block_lt_of_cell? _ _ kk0
  first | go_region_with (first | (go_at_call 69; refine (or2_ok D _ _ _ .none .expr rfl (by first | exact shapes_two (shNone D _) (shExpr HRi.out (Utf8Tabs_below HT.out (by (repeat' (first  | with_reducible exact Below.refl _ _ | (with_reducible refine Below.alloc ?_ ?_ _) | (with_reducible refine below_drew ?_))); all_goals (first  | omega | (simp; done) | (simp; omega) )))) _ _ (by simp) | exact ShapesAt.later (shapes_two (shNone D _) (shExpr HRi.out (Utf8Tabs_below HT.out (by (repeat' (first  | with_reducible exact Below.refl _ _ | (with_reducible refine Below.alloc ?_ ?_ _) | (with_reducible refine below_drew ?_))); all_goals (first  | omega | (simp; done) | (simp; omega) )))) _ _ (by simp)) (below_drew (Below.refl _ _)) | exact ShapesAt.later (shapes_two (shNone D _) (shExpr HRi.out (Utf8Tabs_below HT.out (by (repeat' (first  | with_reducible exact Below.refl _ _ | (with_reducible refine Below.alloc ?_ ?_ _) | (with_reducible refine below_drew ?_))); all_goals (first  | omega | (simp; done) | (simp; omega) )))) _ _ (by simp)) (below_drew (below_drew (Below.refl _ _))))).mono ?_; rintro e w3 ⟨⟨v, rfl, hv⟩, hb3⟩; have hv' := hv; obtain ⟨f1, cp1, hv1, _⟩ := hv'; subst hv1; have H1 := below_then (w1 := w1) hb3 (by (repeat' (first  | with_reducible exact Below.refl _ _ | (with_reducible refine Below.alloc ?_ ?_ _) | (with_reducible refine below_drew ?_))); all_goals (first  | omega | (simp; done) | (simp; omega) )); have a5 := cell_later H1 c5; have a2 := cell_later H1 c2; have hl3 : w.heap.size < w3.heap.size := Nat.lt_of_lt_of_le hwl H1.size; have ak := cell_later H1 kk0; have hlb3 : b < w3.heap.size := Nat.lt_of_lt_of_le hbl H1.size) | (go_at_call 127; refine (HRow.out _ (by (repeat' (first | with_reducible exact H1 | with_reducible exact Below.refl _ _ | (with_reducible refine Below.alloc ?_ ?_ _) | (with_reducible refine below_drew ?_))); all_goals (first | exact H1.size | omega | (simp; done) | (simp; omega) | (have := H1.size; simp; omega))) [(Sh.or2 .none .expr).ev Nd.right, Sh.block.ev Nd.right] 2 _ rfl (by first | exact shapes_two (hv.later (by first | exact Below.refl _ _ | exact below_drew (Below.refl _ _) | exact below_drew (below_drew (Below.refl _ _)))) (shBlock HRi.out (Utf8Tabs_below HT.out (by (repeat' (first | with_reducible exact H1 | with_reducible exact Below.refl _ _ | (with_reducible refine Below.alloc ?_ ?_ _) | (with_reducible refine below_drew ?_))); all_goals (first | exact H1.size | omega | (simp; done) | (simp; omega) | (have := H1.size; simp; omega))))) _ _ (by simp) | exact ShapesAt.later (shapes_two (hv.later (by first | exact Below.refl _ _ | exact below_drew (Below.refl _ _) | exact below_drew (below_drew (Below.refl _ _)))) (shBlock HRi.out (Utf8Tabs_below HT.out (by (repeat' (first | with_reducible exact H1 | with_reducible exact Below.refl _ _ | (with_reducible refine Below.alloc ?_ ?_ _) | (with_reducible refine below_drew ?_))); all_goals (first | exact H1.size | omega | (simp; done) | (simp; omega) | (have := H1.size; simp; omega))))) _ _ (by simp)) (below_drew (Below.refl _ _)) | exact ShapesAt.later (shapes_two (hv.later (by first | exact Below.refl _ _ | exact below_drew (Below.refl _ _) | exact below_drew (below_drew (Below.refl _ _)))) (shBlock HRi.out (Utf8Tabs_below HT.out (by (repeat' (first | with_reducible exact H1 | with_reducible exact Below.refl _ _ | (with_reducible refine Below.alloc ?_ ?_ _) | (with_reducible refine below_drew ?_))); all_goals (first | exact H1.size | omega | (simp; done) | (simp; omega) | (have := H1.size; simp; omega))))) _ _ (by simp)) (below_drew (below_drew (Below.refl _ _)))) (by unfold maxLen; omega)).mono ?_; rintro e w4 ⟨he4, hb4⟩; rw [HR1.out] at he4; subst he4; have H2 := below_then (w1 := w1) hb4 (by (repeat' (first | with_reducible exact H1 | with_reducible exact Below.refl _ _ | (with_reducible refine Below.alloc ?_ ?_ _) | (with_reducible refine below_drew ?_))); all_goals (first | exact H1.size | omega | (simp; done) | (simp; omega) | (have := H1.size; simp; omega))); have b5 := cell_later H2 c5; have b2 := cell_later H2 c2; have hl4 : w.heap.size < w4.heap.size := Nat.lt_of_lt_of_le hwl H2.size; have bk := cell_later H2 kk0; have hlb4 : b < w4.heap.size := Nat.lt_of_lt_of_le hbl H2.size)) | fail
  all_goals
    go_wp2
    go_ret
    exact ⟨rfl, hb1.trans (H2.mono hb1.size)⟩
end
section
set_option linter.unusedVariables false
set_option linter.unusedSimpArgs false
open Go.RowKit
set_option maxRecDepth 1000000
set_option maxHeartbeats 16000000 in
theorem exC_ok (D : Nat) (hRi : RightOk D) (T : Nd) (A : Option Addr) (c : Nat) (K : Option Addr) (d : Nat) (w : World) (hD : T.depth ≤ D + 1) (hW : T.weight ≤ 1048576) (hN : NodeAt w T A c K d) (hT : Lib.Utf8Tabs 0 1 w) (hr1 : rowB T.kids [(Sh.or2 .none .expr).ev Nd.right, Sh.block.ev Nd.right] = true) (q : Nd) (hq : T.kids[0]? = some q) (hte : (T.text.size == 0) = false) (hnb : nameB T.text.data.toList = false) :
    Calls Tryz.prog 78 #[ndV T A c K d] w fun e w' => e = .returned (.bool false) ∧ Below w.heap.size w w' := by
  have hWi := within_kids hD hW
  have hkp := hN.parts
  have hbx := (Below.refl w.heap.size w).alloc (Nat.le_refl _) (.cells #[.int .i64 T.kind, .int .i64 T.pos, .string T.text, .bool T.neg, .slice A T.mag.length c, .slice K T.kids.length d] 27)
  have HRow := Lib.hid (fun W (hb : Below (w.alloc (.cells #[.int .i64 T.kind, .int .i64 T.pos, .string T.text, .bool T.neg, .slice A T.mag.length c, .slice K T.kids.length d] 27)).heap.size (w.alloc (.cells #[.int .i64 T.kind, .int .i64 T.pos, .string T.text, .bool T.neg, .slice A T.mag.length c, .slice K T.kids.length d] 27)) W) (L : List (Nd → Bool)) (m : Nat) A hm hL hmc => row_ok D T.kids T.kids.length K d L m A m W rfl (hkp.2.2.2.2.2.2.2.2.2.later (hbx.trans (hb.mono hbx.size))) hWi hm hL hkp.2.2.2.2.1 hkp.2.2.2.2.2.1 (Nat.le_refl _) hmc)
  have HT := Lib.hid (Utf8Tabs_below hT hbx)
  have HRi := Lib.hid hRi
  have htx : T.text.size ≤ 1048576 := by have := T.weight_eq; omega
  have HNm := Lib.hid (fun W => isName_ok T.text W (by omega))
  have HTE := Lib.hid (text_empty T.text)
  clear hkp hWi hT hRi htx
  have HR1 := Lib.hid hr1
  have hl2 : T.kids.length = 2 := by
    rcases Nat.decEq T.kids.length 2 with h | h
    · rw [rowB_len h] at hr1; cases hr1
    · exact h
  obtain ⟨b, off, A', c', K', d', hKe, hC, _⟩ := hN.kid hq
  rw [Nat.zero_mul, Nat.add_zero] at hC
  subst hKe
  have kk1 := cell_later hbx hC.1
  clear hr1 hq hbx hC
  have i0 : (0 : Int) < (T.kids.length : Int) := by omega
  have i1 : 0 < T.kids.length := by omega
  clear hl2
  have HNB := Lib.hid hnb
  clear hnb
  have e1 : T.text.toList.isEmpty = false := by rw [HTE.out, hte]
  obtain ⟨hm1, hm2, hrm, hw32, hk1, hk2, hk64, ha64, hts, hKs⟩ := hN.parts
  unfold maxLen at hm2 hk2 hts
  obtain ⟨hk64a, hk64b⟩ := hk64
  obtain ⟨ha64a, ha64b⟩ := ha64
  have HK := Lib.hid (fun (i : Nat) (t : Nd) (hi : T.kids[i]? = some t) => hN.kid hi)
  have hb1 := (Below.refl w.heap.size w).alloc (Nat.le_refl _) (.cells #[.int .i64 T.kind, .int .i64 T.pos, .string T.text, .bool T.neg, .slice A T.mag.length c, .slice (some ⟨b, off, none⟩) T.kids.length d] 27)
  obtain ⟨c0, c1, c2, c3, c4, c5⟩ := (cellsN_new w T A c (some ⟨b, off, none⟩) d 27).box
  unfold ndV
  clear hKs hN
  go_enter Tryz.func78, Tryz.ntmps78
  go_wp2_with fail
  generalize w.alloc (.cells #[.int .i64 T.kind, .int .i64 T.pos, .string T.text, .bool T.neg, .slice A T.mag.length c, .slice (some ⟨b, off, none⟩) T.kids.length d] 27) = w1 at *
  have hwl : w.heap.size < w1.heap.size := World.block_lt_of_cell? _ _ c5
  have hun : undef = Value.tuple #[] := rfl
  have kk0 := kk1
  have hbl : b < w1.heap.size := World.block_lt_of_cell? _ _ kk0
  first | go_region_with (first | (go_at_call 69; refine (or2_ok D _ _ _ .none .expr rfl (by first | exact shapes_two (shNone D _) (shExpr HRi.out (Utf8Tabs_below HT.out (by (repeat' (first  | with_reducible exact Below.refl _ _ | (with_reducible refine Below.alloc ?_ ?_ _) | (with_reducible refine below_drew ?_))); all_goals (first  | omega | (simp; done) | (simp; omega) )))) _ _ (by simp) | exact ShapesAt.later (shapes_two (shNone D _) (shExpr HRi.out (Utf8Tabs_below HT.out (by (repeat' (first  | with_reducible exact Below.refl _ _ | (with_reducible refine Below.alloc ?_ ?_ _) | (with_reducible refine below_drew ?_))); all_goals (first  | omega | (simp; done) | (simp; omega) )))) _ _ (by simp)) (below_drew (Below.refl _ _)) | exact ShapesAt.later (shapes_two (shNone D _) (shExpr HRi.out (Utf8Tabs_below HT.out (by (repeat' (first  | with_reducible exact Below.refl _ _ | (with_reducible refine Below.alloc ?_ ?_ _) | (with_reducible refine below_drew ?_))); all_goals (first  | omega | (simp; done) | (simp; omega) )))) _ _ (by simp)) (below_drew (below_drew (Below.refl _ _))))).mono ?_; rintro e w3 ⟨⟨v, rfl, hv⟩, hb3⟩; have hv' := hv; obtain ⟨f1, cp1, hv1, _⟩ := hv'; subst hv1; have H1 := below_then (w1 := w1) hb3 (by (repeat' (first  | with_reducible exact Below.refl _ _ | (with_reducible refine Below.alloc ?_ ?_ _) | (with_reducible refine below_drew ?_))); all_goals (first  | omega | (simp; done) | (simp; omega) )); have a5 := cell_later H1 c5; have a2 := cell_later H1 c2; have hl3 : w.heap.size < w3.heap.size := Nat.lt_of_lt_of_le hwl H1.size; have ak := cell_later H1 kk0; have hlb3 : b < w3.heap.size := Nat.lt_of_lt_of_le hbl H1.size) | (go_at_call 127; refine (HRow.out _ (by (repeat' (first | with_reducible exact H1 | with_reducible exact Below.refl _ _ | (with_reducible refine Below.alloc ?_ ?_ _) | (with_reducible refine below_drew ?_))); all_goals (first | exact H1.size | omega | (simp; done) | (simp; omega) | (have := H1.size; simp; omega))) [(Sh.or2 .none .expr).ev Nd.right, Sh.block.ev Nd.right] 2 _ rfl (by first | exact shapes_two (hv.later (by first | exact Below.refl _ _ | exact below_drew (Below.refl _ _) | exact below_drew (below_drew (Below.refl _ _)))) (shBlock HRi.out (Utf8Tabs_below HT.out (by (repeat' (first | with_reducible exact H1 | with_reducible exact Below.refl _ _ | (with_reducible refine Below.alloc ?_ ?_ _) | (with_reducible refine below_drew ?_))); all_goals (first | exact H1.size | omega | (simp; done) | (simp; omega) | (have := H1.size; simp; omega))))) _ _ (by simp) | exact ShapesAt.later (shapes_two (hv.later (by first | exact Below.refl _ _ | exact below_drew (Below.refl _ _) | exact below_drew (below_drew (Below.refl _ _)))) (shBlock HRi.out (Utf8Tabs_below HT.out (by (repeat' (first | with_reducible exact H1 | with_reducible exact Below.refl _ _ | (with_reducible refine Below.alloc ?_ ?_ _) | (with_reducible refine below_drew ?_))); all_goals (first | exact H1.size | omega | (simp; done) | (simp; omega) | (have := H1.size; simp; omega))))) _ _ (by simp)) (below_drew (Below.refl _ _)) | exact ShapesAt.later (shapes_two (hv.later (by first | exact Below.refl _ _ | exact below_drew (Below.refl _ _) | exact below_drew (below_drew (Below.refl _ _)))) (shBlock HRi.out (Utf8Tabs_below HT.out (by (repeat' (first | with_reducible exact H1 | with_reducible exact Below.refl _ _ | (with_reducible refine Below.alloc ?_ ?_ _) | (with_reducible refine below_drew ?_))); all_goals (first | exact H1.size | omega | (simp; done) | (simp; omega) | (have := H1.size; simp; omega))))) _ _ (by simp)) (below_drew (below_drew (Below.refl _ _)))) (by unfold maxLen; omega)).mono ?_; rintro e w4 ⟨he4, hb4⟩; rw [HR1.out] at he4; subst he4; have H2 := below_then (w1 := w1) hb4 (by (repeat' (first | with_reducible exact H1 | with_reducible exact Below.refl _ _ | (with_reducible refine Below.alloc ?_ ?_ _) | (with_reducible refine below_drew ?_))); all_goals (first | exact H1.size | omega | (simp; done) | (simp; omega) | (have := H1.size; simp; omega))); have b5 := cell_later H2 c5; have b2 := cell_later H2 c2; have hl4 : w.heap.size < w4.heap.size := Nat.lt_of_lt_of_le hwl H2.size; have bk := cell_later H2 kk0; have hlb4 : b < w4.heap.size := Nat.lt_of_lt_of_le hbl H2.size) | (go_at_call 73; refine (HNm.out _).mono ?_; rintro e w5 ⟨he5, hb5⟩; rw [HNB.out] at he5; subst he5; have H3 := below_then (w1 := w1) hb5 (by (repeat' (first | with_reducible exact H2 | with_reducible exact Below.refl _ _ | (with_reducible refine Below.alloc ?_ ?_ _) | (with_reducible refine below_drew ?_))); all_goals (first | exact H2.size | omega | (simp; done) | (simp; omega) | (have := H2.size; simp; omega))); have d5 := cell_later H3 c5; have dk := cell_later H3 kk0; have hl5 : w.heap.size < w5.heap.size := Nat.lt_of_lt_of_le hwl H3.size; have hlb5 : b < w5.heap.size := Nat.lt_of_lt_of_le hbl H3.size)) | fail
  all_goals
    go_wp2
    go_ret
    exact ⟨rfl, hb1.trans (H3.mono hb1.size)⟩
end
section
set_option linter.unusedVariables false
set_option linter.unusedSimpArgs false
open Go.RowKit
set_option maxRecDepth 1000000
set_option maxHeartbeats 16000000 in
theorem exD1_ok (D : Nat) (hRi : RightOk D) (T : Nd) (A : Option Addr) (c : Nat) (K : Option Addr) (d : Nat) (w : World) (hD : T.depth ≤ D + 1) (hW : T.weight ≤ 1048576) (hN : NodeAt w T A c K d) (hT : Lib.Utf8Tabs 0 1 w) (hr1 : rowB T.kids [(Sh.or2 .none .expr).ev Nd.right, Sh.block.ev Nd.right] = true) (q : Nd) (hq : T.kids[0]? = some q) (hte : (T.text.size == 0) = false) (hnb : nameB T.text.data.toList = true) (e2 : (q.kind == 0) = true) :
    Calls Tryz.prog 78 #[ndV T A c K d] w fun e w' => e = .returned (.bool false) ∧ Below w.heap.size w w' := by
  have hWi := within_kids hD hW
  have hkp := hN.parts
  have hbx := (Below.refl w.heap.size w).alloc (Nat.le_refl _) (.cells #[.int .i64 T.kind, .int .i64 T.pos, .string T.text, .bool T.neg, .slice A T.mag.length c, .slice K T.kids.length d] 27)
  have HRow := Lib.hid (fun W (hb : Below (w.alloc (.cells #[.int .i64 T.kind, .int .i64 T.pos, .string T.text, .bool T.neg, .slice A T.mag.length c, .slice K T.kids.length d] 27)).heap.size (w.alloc (.cells #[.int .i64 T.kind, .int .i64 T.pos, .string T.text, .bool T.neg, .slice A T.mag.length c, .slice K T.kids.length d] 27)) W) (L : List (Nd → Bool)) (m : Nat) A hm hL hmc => row_ok D T.kids T.kids.length K d L m A m W rfl (hkp.2.2.2.2.2.2.2.2.2.later (hbx.trans (hb.mono hbx.size))) hWi hm hL hkp.2.2.2.2.1 hkp.2.2.2.2.2.1 (Nat.le_refl _) hmc)
  have HT := Lib.hid (Utf8Tabs_below hT hbx)
  have HRi := Lib.hid hRi
  have htx : T.text.size ≤ 1048576 := by have := T.weight_eq; omega
  have HNm := Lib.hid (fun W => isName_ok T.text W (by omega))
  have HTE := Lib.hid (text_empty T.text)
  clear hkp hWi hT hRi htx
  have HR1 := Lib.hid hr1
  have hl2 : T.kids.length = 2 := by
    rcases Nat.decEq T.kids.length 2 with h | h
    · rw [rowB_len h] at hr1; cases hr1
    · exact h
  obtain ⟨b, off, A', c', K', d', hKe, hC, _⟩ := hN.kid hq
  rw [Nat.zero_mul, Nat.add_zero] at hC
  subst hKe
  have kk1 := cell_later hbx hC.1
  clear hr1 hq hbx hC
  have i0 : (0 : Int) < (T.kids.length : Int) := by omega
  have i1 : 0 < T.kids.length := by omega
  clear hl2
  have HNB := Lib.hid hnb
  clear hnb
  have e1 : T.text.toList.isEmpty = false := by rw [HTE.out, hte]
  have e3 : (q.kind != 0) = false := by simp [bne, e2]
  obtain ⟨hm1, hm2, hrm, hw32, hk1, hk2, hk64, ha64, hts, hKs⟩ := hN.parts
  unfold maxLen at hm2 hk2 hts
  obtain ⟨hk64a, hk64b⟩ := hk64
  obtain ⟨ha64a, ha64b⟩ := ha64
  have HK := Lib.hid (fun (i : Nat) (t : Nd) (hi : T.kids[i]? = some t) => hN.kid hi)
  have hb1 := (Below.refl w.heap.size w).alloc (Nat.le_refl _) (.cells #[.int .i64 T.kind, .int .i64 T.pos, .string T.text, .bool T.neg, .slice A T.mag.length c, .slice (some ⟨b, off, none⟩) T.kids.length d] 27)
  obtain ⟨c0, c1, c2, c3, c4, c5⟩ := (cellsN_new w T A c (some ⟨b, off, none⟩) d 27).box
  unfold ndV
  clear hKs hN
  go_enter Tryz.func78, Tryz.ntmps78
  go_wp2_with fail
  generalize w.alloc (.cells #[.int .i64 T.kind, .int .i64 T.pos, .string T.text, .bool T.neg, .slice A T.mag.length c, .slice (some ⟨b, off, none⟩) T.kids.length d] 27) = w1 at *
  have hwl : w.heap.size < w1.heap.size := World.block_lt_of_cell? _ _ c5
  have kk0 := kk1
  have hbl : b < w1.heap.size := World.block_lt_of_cell? _ _ kk0
  have HPK : ∀ W, Below w1.heap.size w1 W → (W.cell? ⟨w.heap.size, 5, none⟩ = some (.slice (some ⟨b, off, none⟩) T.kids.length d) ∧ W.cell? ⟨w.heap.size, 2, none⟩ = some (.string T.text) ∧ W.cell? ⟨b, off, none⟩ = some (.int .i64 q.kind) ∧ w.heap.size < W.heap.size ∧ b < W.heap.size) := fun W h => ⟨cell_later h c5, cell_later h c2, cell_later h kk0, Nat.lt_of_lt_of_le hwl h.size, Nat.lt_of_lt_of_le hbl h.size⟩
  go_region_held3 (fun W => W.cell? ⟨w.heap.size, 5, none⟩ = some (.slice (some ⟨b, off, none⟩) T.kids.length d) ∧ W.cell? ⟨w.heap.size, 2, none⟩ = some (.string T.text) ∧ W.cell? ⟨b, off, none⟩ = some (.int .i64 q.kind) ∧ w.heap.size < W.heap.size ∧ b < W.heap.size) (first | (refine HPK _ ?_; (repeat' (first | with_reducible exact H3 | with_reducible exact H2 | with_reducible exact H1 | with_reducible exact Below.refl _ _ | (with_reducible refine Below.alloc ?_ ?_ _) | (with_reducible refine below_drew ?_))); all_goals (first | exact H3.size | exact H2.size | exact H1.size | omega | (simp; done) | (simp; omega) | (have := H3.size; simp; omega) | (have := H2.size; simp; omega) | (have := H1.size; simp; omega)))) (first | (go_at_call 69; refine (or2_ok D _ _ _ .none .expr rfl (by first | exact shapes_two (shNone D _) (shExpr HRi.out (Utf8Tabs_below HT.out (by (repeat' (first  | with_reducible exact Below.refl _ _ | (with_reducible refine Below.alloc ?_ ?_ _) | (with_reducible refine below_drew ?_))); all_goals (first  | omega | (simp; done) | (simp; omega) )))) _ _ (by simp) | exact ShapesAt.later (shapes_two (shNone D _) (shExpr HRi.out (Utf8Tabs_below HT.out (by (repeat' (first  | with_reducible exact Below.refl _ _ | (with_reducible refine Below.alloc ?_ ?_ _) | (with_reducible refine below_drew ?_))); all_goals (first  | omega | (simp; done) | (simp; omega) )))) _ _ (by simp)) (below_drew (Below.refl _ _)) | exact ShapesAt.later (shapes_two (shNone D _) (shExpr HRi.out (Utf8Tabs_below HT.out (by (repeat' (first  | with_reducible exact Below.refl _ _ | (with_reducible refine Below.alloc ?_ ?_ _) | (with_reducible refine below_drew ?_))); all_goals (first  | omega | (simp; done) | (simp; omega) )))) _ _ (by simp)) (below_drew (below_drew (Below.refl _ _))))).mono ?_; rintro e w3 ⟨⟨v, rfl, hv⟩, hb3⟩; have hv' := hv; obtain ⟨f1, cp1, hv1, _⟩ := hv'; subst hv1; have H1 := below_then (w1 := w1) hb3 (by (repeat' (first  | with_reducible exact Below.refl _ _ | (with_reducible refine Below.alloc ?_ ?_ _) | (with_reducible refine below_drew ?_))); all_goals (first  | omega | (simp; done) | (simp; omega) )); have a5 := cell_later H1 c5; have a2 := cell_later H1 c2; have hl3 : w.heap.size < w3.heap.size := Nat.lt_of_lt_of_le hwl H1.size; have ak := cell_later H1 kk0; have hlb3 : b < w3.heap.size := Nat.lt_of_lt_of_le hbl H1.size) | (go_at_call 127; refine (HRow.out _ (by (repeat' (first | with_reducible exact H1 | with_reducible exact Below.refl _ _ | (with_reducible refine Below.alloc ?_ ?_ _) | (with_reducible refine below_drew ?_))); all_goals (first | exact H1.size | omega | (simp; done) | (simp; omega) | (have := H1.size; simp; omega))) [(Sh.or2 .none .expr).ev Nd.right, Sh.block.ev Nd.right] 2 _ rfl (by first | exact shapes_two (hv.later (by first | exact Below.refl _ _ | exact below_drew (Below.refl _ _) | exact below_drew (below_drew (Below.refl _ _)))) (shBlock HRi.out (Utf8Tabs_below HT.out (by (repeat' (first | with_reducible exact H1 | with_reducible exact Below.refl _ _ | (with_reducible refine Below.alloc ?_ ?_ _) | (with_reducible refine below_drew ?_))); all_goals (first | exact H1.size | omega | (simp; done) | (simp; omega) | (have := H1.size; simp; omega))))) _ _ (by simp) | exact ShapesAt.later (shapes_two (hv.later (by first | exact Below.refl _ _ | exact below_drew (Below.refl _ _) | exact below_drew (below_drew (Below.refl _ _)))) (shBlock HRi.out (Utf8Tabs_below HT.out (by (repeat' (first | with_reducible exact H1 | with_reducible exact Below.refl _ _ | (with_reducible refine Below.alloc ?_ ?_ _) | (with_reducible refine below_drew ?_))); all_goals (first | exact H1.size | omega | (simp; done) | (simp; omega) | (have := H1.size; simp; omega))))) _ _ (by simp)) (below_drew (Below.refl _ _)) | exact ShapesAt.later (shapes_two (hv.later (by first | exact Below.refl _ _ | exact below_drew (Below.refl _ _) | exact below_drew (below_drew (Below.refl _ _)))) (shBlock HRi.out (Utf8Tabs_below HT.out (by (repeat' (first | with_reducible exact H1 | with_reducible exact Below.refl _ _ | (with_reducible refine Below.alloc ?_ ?_ _) | (with_reducible refine below_drew ?_))); all_goals (first | exact H1.size | omega | (simp; done) | (simp; omega) | (have := H1.size; simp; omega))))) _ _ (by simp)) (below_drew (below_drew (Below.refl _ _)))) (by unfold maxLen; omega)).mono ?_; rintro e w4 ⟨he4, hb4⟩; rw [HR1.out] at he4; subst he4; have H2 := below_then (w1 := w1) hb4 (by (repeat' (first | with_reducible exact H1 | with_reducible exact Below.refl _ _ | (with_reducible refine Below.alloc ?_ ?_ _) | (with_reducible refine below_drew ?_))); all_goals (first | exact H1.size | omega | (simp; done) | (simp; omega) | (have := H1.size; simp; omega))); have b5 := cell_later H2 c5; have b2 := cell_later H2 c2; have hl4 : w.heap.size < w4.heap.size := Nat.lt_of_lt_of_le hwl H2.size; have bk := cell_later H2 kk0; have hlb4 : b < w4.heap.size := Nat.lt_of_lt_of_le hbl H2.size) | (go_at_call 73; refine (HNm.out _).mono ?_; rintro e w5 ⟨he5, hb5⟩; rw [HNB.out] at he5; subst he5; have H3 := below_then (w1 := w1) hb5 (by (repeat' (first | with_reducible exact H2 | with_reducible exact Below.refl _ _ | (with_reducible refine Below.alloc ?_ ?_ _) | (with_reducible refine below_drew ?_))); all_goals (first | exact H2.size | omega | (simp; done) | (simp; omega) | (have := H2.size; simp; omega))); have d5 := cell_later H3 c5; have dk := cell_later H3 kk0; have hl5 : w.heap.size < w5.heap.size := Nat.lt_of_lt_of_le hwl H3.size; have hlb5 : b < w5.heap.size := Nat.lt_of_lt_of_le hbl H3.size))
  all_goals
    go_wp2
    go_ret
    exact ⟨rfl, hb1.trans (H3.mono hb1.size)⟩
set_option maxHeartbeats 16000000 in
theorem exD0_ok (D : Nat) (hRi : RightOk D) (T : Nd) (A : Option Addr) (c : Nat) (K : Option Addr) (d : Nat) (w : World) (hD : T.depth ≤ D + 1) (hW : T.weight ≤ 1048576) (hN : NodeAt w T A c K d) (hT : Lib.Utf8Tabs 0 1 w) (hr1 : rowB T.kids [(Sh.or2 .none .expr).ev Nd.right, Sh.block.ev Nd.right] = true) (q : Nd) (hq : T.kids[0]? = some q) (hte : (T.text.size == 0) = false) (hnb : nameB T.text.data.toList = true) (e2 : (q.kind == 0) = false) :
    Calls Tryz.prog 78 #[ndV T A c K d] w fun e w' => e = .returned (.bool true) ∧ Below w.heap.size w w' := by
  have hWi := within_kids hD hW
  have hkp := hN.parts
  have hbx := (Below.refl w.heap.size w).alloc (Nat.le_refl _) (.cells #[.int .i64 T.kind, .int .i64 T.pos, .string T.text, .bool T.neg, .slice A T.mag.length c, .slice K T.kids.length d] 27)
  have HRow := Lib.hid (fun W (hb : Below (w.alloc (.cells #[.int .i64 T.kind, .int .i64 T.pos, .string T.text, .bool T.neg, .slice A T.mag.length c, .slice K T.kids.length d] 27)).heap.size (w.alloc (.cells #[.int .i64 T.kind, .int .i64 T.pos, .string T.text, .bool T.neg, .slice A T.mag.length c, .slice K T.kids.length d] 27)) W) (L : List (Nd → Bool)) (m : Nat) A hm hL hmc => row_ok D T.kids T.kids.length K d L m A m W rfl (hkp.2.2.2.2.2.2.2.2.2.later (hbx.trans (hb.mono hbx.size))) hWi hm hL hkp.2.2.2.2.1 hkp.2.2.2.2.2.1 (Nat.le_refl _) hmc)
  have HT := Lib.hid (Utf8Tabs_below hT hbx)
  have HRi := Lib.hid hRi
  have htx : T.text.size ≤ 1048576 := by have := T.weight_eq; omega
  have HNm := Lib.hid (fun W => isName_ok T.text W (by omega))
  have HTE := Lib.hid (text_empty T.text)
  clear hkp hWi hT hRi htx
  have HR1 := Lib.hid hr1
  have hl2 : T.kids.length = 2 := by
    rcases Nat.decEq T.kids.length 2 with h | h
    · rw [rowB_len h] at hr1; cases hr1
    · exact h
  obtain ⟨b, off, A', c', K', d', hKe, hC, _⟩ := hN.kid hq
  rw [Nat.zero_mul, Nat.add_zero] at hC
  subst hKe
  have kk1 := cell_later hbx hC.1
  clear hr1 hq hbx hC
  have i0 : (0 : Int) < (T.kids.length : Int) := by omega
  have i1 : 0 < T.kids.length := by omega
  clear hl2
  have HNB := Lib.hid hnb
  clear hnb
  have e1 : T.text.toList.isEmpty = false := by rw [HTE.out, hte]
  have e3 : (q.kind != 0) = true := by simp [bne, e2]
  obtain ⟨hm1, hm2, hrm, hw32, hk1, hk2, hk64, ha64, hts, hKs⟩ := hN.parts
  unfold maxLen at hm2 hk2 hts
  obtain ⟨hk64a, hk64b⟩ := hk64
  obtain ⟨ha64a, ha64b⟩ := ha64
  have HK := Lib.hid (fun (i : Nat) (t : Nd) (hi : T.kids[i]? = some t) => hN.kid hi)
  have hb1 := (Below.refl w.heap.size w).alloc (Nat.le_refl _) (.cells #[.int .i64 T.kind, .int .i64 T.pos, .string T.text, .bool T.neg, .slice A T.mag.length c, .slice (some ⟨b, off, none⟩) T.kids.length d] 27)
  obtain ⟨c0, c1, c2, c3, c4, c5⟩ := (cellsN_new w T A c (some ⟨b, off, none⟩) d 27).box
  unfold ndV
  clear hKs hN
  go_enter Tryz.func78, Tryz.ntmps78
  go_wp2_with fail
  generalize w.alloc (.cells #[.int .i64 T.kind, .int .i64 T.pos, .string T.text, .bool T.neg, .slice A T.mag.length c, .slice (some ⟨b, off, none⟩) T.kids.length d] 27) = w1 at *
  have hwl : w.heap.size < w1.heap.size := World.block_lt_of_cell? _ _ c5
  have kk0 := kk1
  have hbl : b < w1.heap.size := World.block_lt_of_cell? _ _ kk0
  have HPK : ∀ W, Below w1.heap.size w1 W → (W.cell? ⟨w.heap.size, 5, none⟩ = some (.slice (some ⟨b, off, none⟩) T.kids.length d) ∧ W.cell? ⟨w.heap.size, 2, none⟩ = some (.string T.text) ∧ W.cell? ⟨b, off, none⟩ = some (.int .i64 q.kind) ∧ w.heap.size < W.heap.size ∧ b < W.heap.size) := fun W h => ⟨cell_later h c5, cell_later h c2, cell_later h kk0, Nat.lt_of_lt_of_le hwl h.size, Nat.lt_of_lt_of_le hbl h.size⟩
  go_region_held3 (fun W => W.cell? ⟨w.heap.size, 5, none⟩ = some (.slice (some ⟨b, off, none⟩) T.kids.length d) ∧ W.cell? ⟨w.heap.size, 2, none⟩ = some (.string T.text) ∧ W.cell? ⟨b, off, none⟩ = some (.int .i64 q.kind) ∧ w.heap.size < W.heap.size ∧ b < W.heap.size) (first | (refine HPK _ ?_; (repeat' (first | with_reducible exact H3 | with_reducible exact H2 | with_reducible exact H1 | with_reducible exact Below.refl _ _ | (with_reducible refine Below.alloc ?_ ?_ _) | (with_reducible refine below_drew ?_))); all_goals (first | exact H3.size | exact H2.size | exact H1.size | omega | (simp; done) | (simp; omega) | (have := H3.size; simp; omega) | (have := H2.size; simp; omega) | (have := H1.size; simp; omega)))) (first | (go_at_call 69; refine (or2_ok D _ _ _ .none .expr rfl (by first | exact shapes_two (shNone D _) (shExpr HRi.out (Utf8Tabs_below HT.out (by (repeat' (first  | with_reducible exact Below.refl _ _ | (with_reducible refine Below.alloc ?_ ?_ _) | (with_reducible refine below_drew ?_))); all_goals (first  | omega | (simp; done) | (simp; omega) )))) _ _ (by simp) | exact ShapesAt.later (shapes_two (shNone D _) (shExpr HRi.out (Utf8Tabs_below HT.out (by (repeat' (first  | with_reducible exact Below.refl _ _ | (with_reducible refine Below.alloc ?_ ?_ _) | (with_reducible refine below_drew ?_))); all_goals (first  | omega | (simp; done) | (simp; omega) )))) _ _ (by simp)) (below_drew (Below.refl _ _)) | exact ShapesAt.later (shapes_two (shNone D _) (shExpr HRi.out (Utf8Tabs_below HT.out (by (repeat' (first  | with_reducible exact Below.refl _ _ | (with_reducible refine Below.alloc ?_ ?_ _) | (with_reducible refine below_drew ?_))); all_goals (first  | omega | (simp; done) | (simp; omega) )))) _ _ (by simp)) (below_drew (below_drew (Below.refl _ _))))).mono ?_; rintro e w3 ⟨⟨v, rfl, hv⟩, hb3⟩; have hv' := hv; obtain ⟨f1, cp1, hv1, _⟩ := hv'; subst hv1; have H1 := below_then (w1 := w1) hb3 (by (repeat' (first  | with_reducible exact Below.refl _ _ | (with_reducible refine Below.alloc ?_ ?_ _) | (with_reducible refine below_drew ?_))); all_goals (first  | omega | (simp; done) | (simp; omega) )); have a5 := cell_later H1 c5; have a2 := cell_later H1 c2; have hl3 : w.heap.size < w3.heap.size := Nat.lt_of_lt_of_le hwl H1.size; have ak := cell_later H1 kk0; have hlb3 : b < w3.heap.size := Nat.lt_of_lt_of_le hbl H1.size) | (go_at_call 127; refine (HRow.out _ (by (repeat' (first | with_reducible exact H1 | with_reducible exact Below.refl _ _ | (with_reducible refine Below.alloc ?_ ?_ _) | (with_reducible refine below_drew ?_))); all_goals (first | exact H1.size | omega | (simp; done) | (simp; omega) | (have := H1.size; simp; omega))) [(Sh.or2 .none .expr).ev Nd.right, Sh.block.ev Nd.right] 2 _ rfl (by first | exact shapes_two (hv.later (by first | exact Below.refl _ _ | exact below_drew (Below.refl _ _) | exact below_drew (below_drew (Below.refl _ _)))) (shBlock HRi.out (Utf8Tabs_below HT.out (by (repeat' (first | with_reducible exact H1 | with_reducible exact Below.refl _ _ | (with_reducible refine Below.alloc ?_ ?_ _) | (with_reducible refine below_drew ?_))); all_goals (first | exact H1.size | omega | (simp; done) | (simp; omega) | (have := H1.size; simp; omega))))) _ _ (by simp) | exact ShapesAt.later (shapes_two (hv.later (by first | exact Below.refl _ _ | exact below_drew (Below.refl _ _) | exact below_drew (below_drew (Below.refl _ _)))) (shBlock HRi.out (Utf8Tabs_below HT.out (by (repeat' (first | with_reducible exact H1 | with_reducible exact Below.refl _ _ | (with_reducible refine Below.alloc ?_ ?_ _) | (with_reducible refine below_drew ?_))); all_goals (first | exact H1.size | omega | (simp; done) | (simp; omega) | (have := H1.size; simp; omega))))) _ _ (by simp)) (below_drew (Below.refl _ _)) | exact ShapesAt.later (shapes_two (hv.later (by first | exact Below.refl _ _ | exact below_drew (Below.refl _ _) | exact below_drew (below_drew (Below.refl _ _)))) (shBlock HRi.out (Utf8Tabs_below HT.out (by (repeat' (first | with_reducible exact H1 | with_reducible exact Below.refl _ _ | (with_reducible refine Below.alloc ?_ ?_ _) | (with_reducible refine below_drew ?_))); all_goals (first | exact H1.size | omega | (simp; done) | (simp; omega) | (have := H1.size; simp; omega))))) _ _ (by simp)) (below_drew (below_drew (Below.refl _ _)))) (by unfold maxLen; omega)).mono ?_; rintro e w4 ⟨he4, hb4⟩; rw [HR1.out] at he4; subst he4; have H2 := below_then (w1 := w1) hb4 (by (repeat' (first | with_reducible exact H1 | with_reducible exact Below.refl _ _ | (with_reducible refine Below.alloc ?_ ?_ _) | (with_reducible refine below_drew ?_))); all_goals (first | exact H1.size | omega | (simp; done) | (simp; omega) | (have := H1.size; simp; omega))); have b5 := cell_later H2 c5; have b2 := cell_later H2 c2; have hl4 : w.heap.size < w4.heap.size := Nat.lt_of_lt_of_le hwl H2.size; have bk := cell_later H2 kk0; have hlb4 : b < w4.heap.size := Nat.lt_of_lt_of_le hbl H2.size) | (go_at_call 73; refine (HNm.out _).mono ?_; rintro e w5 ⟨he5, hb5⟩; rw [HNB.out] at he5; subst he5; have H3 := below_then (w1 := w1) hb5 (by (repeat' (first | with_reducible exact H2 | with_reducible exact Below.refl _ _ | (with_reducible refine Below.alloc ?_ ?_ _) | (with_reducible refine below_drew ?_))); all_goals (first | exact H2.size | omega | (simp; done) | (simp; omega) | (have := H2.size; simp; omega))); have d5 := cell_later H3 c5; have dk := cell_later H3 kk0; have hl5 : w.heap.size < w5.heap.size := Nat.lt_of_lt_of_le hwl H3.size; have hlb5 : b < w5.heap.size := Nat.lt_of_lt_of_le hbl H3.size))
  all_goals
    go_wp2
    go_ret
    exact ⟨rfl, hb1.trans (H3.mono hb1.size)⟩
end
section
set_option linter.unusedVariables false
set_option linter.unusedSimpArgs false
open Go.RowKit
set_option maxRecDepth 1000000
theorem tExcept_ok (D : Nat) (hRi : RightOk D) (T : Nd) (A : Option Addr) (c : Nat) (K : Option Addr) (d : Nat) (w : World) (hD : T.depth ≤ D + 1) (hW : T.weight ≤ 1048576) (hN : NodeAt w T A c K d) (hT : Lib.Utf8Tabs 0 1 w) :
    Calls Tryz.prog 78 #[ndV T A c K d] w fun e w' => e = .returned (.bool (Fm.exc.ev Nd.right T)) ∧ Below w.heap.size w w' := by
  have hEv : Fm.exc.ev Nd.right T = (rowB T.kids [(Sh.or2 .none .expr).ev Nd.right, Sh.block.ev Nd.right] && (T.text.size == 0 || nameB T.text.data.toList && !(T.kids.take 1).any (fun q => q.kind == 0))) := rfl
  rw [hEv]
  cases hr1 : rowB T.kids [(Sh.or2 .none .expr).ev Nd.right, Sh.block.ev Nd.right] with
  | false => exact exA_ok D hRi T A c K d w hD hW hN hT hr1
  | true =>
    have hl2 : T.kids.length = 2 := by
      rcases Nat.decEq T.kids.length 2 with h | h
      · rw [rowB_len h] at hr1; cases hr1
      · exact h
    obtain ⟨q, hq⟩ : ∃ q, T.kids[0]? = some q := ⟨_, List.getElem?_eq_getElem (by omega)⟩
    have ht1 : T.kids.take 1 = [q] := by
      cases hk : T.kids with
      | nil => rw [hk] at hq; simp at hq
      | cons a r => rw [hk] at hq; simp at hq; simp [hq]
    rw [ht1]
    cases hte : T.text.size == 0 with
    | true => exact exB_ok D hRi T A c K d w hD hW hN hT hr1 q hq hte
    | false =>
      cases hnb : nameB T.text.data.toList with
      | false => exact exC_ok D hRi T A c K d w hD hW hN hT hr1 q hq hte hnb
      | true =>
        cases e2 : q.kind == 0 with
        | true =>
          have := exD1_ok D hRi T A c K d w hD hW hN hT hr1 q hq hte hnb e2
          simpa [e2] using this
        | false =>
          have := exD0_ok D hRi T A c K d w hD hW hN hT hr1 q hq hte hnb e2
          simpa [e2] using this
end
section
set_option linter.unusedVariables false
set_option linter.unusedSimpArgs false
open Go.RowKit
set_option maxRecDepth 1000000
theorem params_drop {l : List Nd} {k : Nat} {p : Nd} (h : l[k]? = some p) (g : Bool) : paramsB Nd.right g (l.drop k) = (if !(p.kind == 19) || !p.right then false
    else match p.kids with
      | [] => (l.drop (k + 1)).isEmpty
      | q :: _ => if !(q.kind == 0) then paramsB Nd.right true (l.drop (k + 1)) else if g then false else paramsB Nd.right g (l.drop (k + 1))) := by
  obtain ⟨h1, rfl⟩ := List.getElem?_eq_some_iff.1 h
  rw [List.drop_eq_getElem_cons h1]
  simp only [paramsB]
  rfl
set_option maxHeartbeats 16000000 in
theorem tParams_ok (D : Nat) (hRi : RightOk D) (l : List Nd) (n : Nat) (K : Option Addr) (d : Nat) (w : World) (hn : l.length = n) (hl : KidsAt w l K 0) (hWi : Within D l) (hnd : n ≤ d) (hd : d ≤ maxLen) (hT : Lib.Utf8Tabs 0 1 w) :
    Calls Tryz.prog 136 #[.slice K n d] w fun e w' => e = .returned (.bool (paramsB Nd.right false l)) ∧ Below w.heap.size w w' := by
  unfold maxLen at hd
  have HK := Lib.hid hl
  have HNn := Lib.hid hn
  have HW := Lib.hid hWi
  have HT := Lib.hid hT
  have HRi := Lib.hid hRi
  clear hl hn hWi hT hRi
  go_enter Tryz.func136, Tryz.ntmps136
  go_wp2_with fail
  go_loopw [3, 8] (fun gv iv wr => ∃ (g : Bool) (k : Nat), gv = .bool g ∧ iv = .int .i64 k ∧ k ≤ n ∧ Hid (paramsB Nd.right false l = paramsB Nd.right g (l.drop k)) ∧ Below w.heap.size w wr) (fun _ iv _ => n - (intOf iv).toNat)
  case atStart => exact ⟨false, 0, rfl, rfl, Nat.zero_le _, Lib.hid (by simp), Below.refl _ _⟩
  case round =>
    obtain ⟨g, k, rfl, rfl, hk, hR, hbr⟩ := hrel
    by_cases hkl : k < n
    · have o1 : decide ((k : Int) < (n : Int)) = true := decide_eq_true (by omega)
      have o2 : decide (k < n) = true := decide_eq_true hkl
      obtain ⟨t, ht⟩ : ∃ t, l[k]? = some t := ⟨_, List.getElem?_eq_getElem (by rw [HNn.out]; exact hkl)⟩
      obtain ⟨b, off, A', c', K', d', hK, hC, hNt⟩ := HK.out.kid ht
      rw [Nat.zero_add] at hC
      subst hK
      obtain ⟨n0, n1, n2, n3, n4, n5⟩ := hC.later hbr
      obtain ⟨hd1, hw1⟩ := HW.out t (List.mem_of_getElem? ht)
      have hbt := (Below.refl wr.heap.size wr).alloc (Nat.le_refl _) (.cells #[.int .i64 t.kind, .int .i64 t.pos, .string t.text, .bool t.neg, .slice A' t.mag.length c', .slice K' t.kids.length d'] 27)
      have hbq := hbr.trans (hbt.mono hbr.size)
      obtain ⟨m0, m1, m2, m3, m4, m5⟩ := (cellsN_new wr t A' c' K' d' 27).box
      have hI := HRi.out t A' c' K' d' _ hd1 hw1 ((hNt.later hbr).later hbt) (Utf8Tabs_below (Utf8Tabs_below HT.out hbr) hbt)
      unfold ndV at hI
      have HI := Lib.hid hI
      have hPD := params_drop ht g
      have HKT := Lib.hid (fun (q : Nd) (hq : t.kids[0]? = some q) => hNt.kid hq)
      have hle := HNn.out
      clear hI hC hNt ht hd1 hw1
      by_cases h19 : t.kind = 19
      · have e1 : (t.kind == 19) = true := by simpa using h19
        have e1' : (t.kind != 19) = false := by simp [h19]
        rw [e1] at hPD
        clear h19
        generalize t.right = tr at *
        cases tr with
        | false =>
          have HPD := Lib.hid hPD
          clear hPD
          go_wp2_with (go_at_call 27; refine HI.out.mono ?_; rintro e w3 ⟨rfl, hb3⟩)
          go_ret
          exact ⟨by rw [hR.out, HPD.out]; rfl, hbq.trans (hb3.mono hbq.size)⟩
        | true =>
          cases hks : t.kids with
          | nil =>
            rw [hks] at hPD
            have e2 : ((t.kids.length : Int) == 0) = true := by rw [hks]; rfl
            have e3 : (t.kids.length == 0) = true := by rw [hks]; rfl
            have hPD2 : paramsB Nd.right g (l.drop k) = (l.drop (k + 1)).isEmpty := by rw [hPD]; simp
            have HPD := Lib.hid hPD2
            have HHK := Lib.hid hks
            clear hPD hPD2 hks
            by_cases hkn : k + 1 = n
            · have q1 : ((k : Int) == (n : Int) - 1) = true := by simp; omega
              have hem : (l.drop (k + 1)).isEmpty = true := by rw [List.drop_eq_nil_of_le (by omega)]; rfl
              have HEM := Lib.hid hem
              clear hem hkn
              go_wp2_with (go_at_call 27; refine HI.out.mono ?_; rintro e w3 ⟨rfl, hb3⟩; have p5 := cell_later hb3 m5)
              go_ret
              exact ⟨by rw [hR.out, HPD.out, HEM.out]; first | rfl | (show Ending.returned (.bool _) = _; rw [q1]), hbq.trans (hb3.mono hbq.size)⟩
            · have q1 : ((k : Int) == (n : Int) - 1) = false := by simp; omega
              have hem : (l.drop (k + 1)).isEmpty = false := by
                cases hdr : l.drop (k + 1) with
                | nil => have := congrArg List.length hdr; simp at this; omega
                | cons a r => rfl
              have HEM := Lib.hid hem
              clear hem hkn
              go_wp2_with (go_at_call 27; refine HI.out.mono ?_; rintro e w3 ⟨rfl, hb3⟩; have p5 := cell_later hb3 m5)
              go_ret
              exact ⟨by rw [hR.out, HPD.out, HEM.out]; first | rfl | (show Ending.returned (.bool _) = _; rw [q1]), hbq.trans (hb3.mono hbq.size)⟩
          | cons q r =>
            rw [hks] at hPD
            obtain ⟨b2, off2, A2, c2, K2, d2, hK2, hC2, _⟩ := HKT.out q (by rw [hks]; rfl)
            rw [Nat.zero_mul, Nat.add_zero] at hC2
            subst hK2
            have hlen : t.kids.length = r.length + 1 := by rw [hks]; rfl
            have e2 : ((t.kids.length : Int) == 0) = false := beq0F (by omega)
            have e3 : (t.kids.length == 0) = false := by simp [hks]
            have i0 : (0 : Int) < (t.kids.length : Int) := by omega
            have i1 : 0 < t.kids.length := by omega
            have kc2 := cell_later hbt (cell_later hbr hC2.1)
            clear hlen hks hC2
            by_cases hq0 : q.kind = 0
            · have z1 : (q.kind == 0) = true := by simpa using hq0
              have z2 : (q.kind != 0) = false := by simp [hq0]
              dsimp only at hPD; rw [z1] at hPD
              clear hq0
              cases g with
              | true =>
                have HPD := Lib.hid (show paramsB Nd.right true (l.drop k) = false by rw [hPD]; simp)
                clear hPD
                go_wp2_with (go_at_call 27; refine HI.out.mono ?_; rintro e w3 ⟨rfl, hb3⟩; have p5 := cell_later hb3 m5; have pk := cell_later hb3 kc2; have hlb3 : b2 < w3.heap.size := World.block_lt_of_cell? _ _ pk)
                go_ret
                exact ⟨by rw [hR.out, HPD.out]; rfl, hbq.trans (hb3.mono hbq.size)⟩
              | false =>
                have HPD := Lib.hid (show paramsB Nd.right false (l.drop k) = paramsB Nd.right false (l.drop (k + 1)) by rw [hPD]; simp)
                clear hPD
                go_wp2_with (go_at_call 27; refine HI.out.mono ?_; rintro e w3 ⟨rfl, hb3⟩; have p5 := cell_later hb3 m5; have pk := cell_later hb3 kc2; have hlb3 : b2 < w3.heap.size := World.block_lt_of_cell? _ _ pk)
                go_roundw
                case rel => exact ⟨false, k + 1, rfl, by go_num, by omega, Lib.hid (hR.out.trans HPD.out), hbq.trans (hb3.mono hbq.size)⟩
                case measure => simp [intOf]; omega
            · have z1 : (q.kind == 0) = false := by simpa using hq0
              have z2 : (q.kind != 0) = true := by simp [hq0]
              dsimp only at hPD; rw [z1] at hPD
              have HPD := Lib.hid (show paramsB Nd.right g (l.drop k) = paramsB Nd.right true (l.drop (k + 1)) by rw [hPD]; simp)
              clear hPD hq0
              go_wp2_with (go_at_call 27; refine HI.out.mono ?_; rintro e w3 ⟨rfl, hb3⟩; have p5 := cell_later hb3 m5; have pk := cell_later hb3 kc2; have hlb3 : b2 < w3.heap.size := World.block_lt_of_cell? _ _ pk)
              go_roundw
              case rel => exact ⟨true, k + 1, rfl, by go_num, by omega, Lib.hid (hR.out.trans HPD.out), hbq.trans (hb3.mono hbq.size)⟩
              case measure => simp [intOf]; omega
      · have e1 : (t.kind == 19) = false := by simpa using h19
        have e1' : (t.kind != 19) = true := by simp [h19]
        rw [e1] at hPD
        have HPD := Lib.hid hPD
        clear h19 hPD
        go_wp2_with fail
        go_ret
        exact ⟨by rw [hR.out, HPD.out]; rfl, hbq⟩
    · have o1 : decide ((k : Int) < (n : Int)) = false := decide_eq_false (by omega)
      have o2 : decide (k < n) = false := decide_eq_false hkl
      have hR2 := hR.out
      rw [List.drop_eq_nil_of_le (by have := HNn.out; omega), paramsB] at hR2
      have HR2 := Lib.hid hR2
      clear hR2
      go_wp2_with fail
      go_ret
      exact ⟨by rw [HR2.out]; rfl, hbr⟩
end
section
set_option linter.unusedVariables false
set_option linter.unusedSimpArgs false
open Go.RowKit
set_option maxRecDepth 1000000
set_option maxHeartbeats 8000000 in
theorem tDef_ok (D : Nat) (hRi : RightOk D) (T : Nd) (A : Option Addr) (c : Nat) (K : Option Addr) (d : Nat) (w : World) (hD : T.depth ≤ D + 1) (hW : T.weight ≤ 1048576) (hN : NodeAt w T A c K d) (hT : Lib.Utf8Tabs 0 1 w) :
    Calls Tryz.prog 74 #[ndV T A c K d] w fun e w' => e = .returned (.bool (Fm.dfn.ev Nd.right T)) ∧ Below w.heap.size w w' := by
  have hWi := within_kids hD hW
  have hkp := hN.parts
  by_cases h0 : T.kids.length = 0
  · have e1 : decide (0 ≤ (T.kids.length : Int) - 1) = false := decide_eq_false (by omega)
    have e2 : decide (1 ≤ T.kids.length) = false := decide_eq_false (by omega)
    have e3 : (T.kids.length : Int) - 1 = -1 := by omega
    have HE2 := Lib.hid e2
    clear hWi hkp e2 h0
    obtain ⟨hm1, hm2, hrm, hw32, hk1, hk2, hk64, ha64, hts, hKs⟩ := hN.parts
    unfold maxLen at hm2 hk2 hts
    obtain ⟨hk64a, hk64b⟩ := hk64
    obtain ⟨ha64a, ha64b⟩ := ha64
    have HK := Lib.hid (fun (i : Nat) (t : Nd) (hi : T.kids[i]? = some t) => hN.kid hi)
    have hb1 := (Below.refl w.heap.size w).alloc (Nat.le_refl _) (.cells #[.int .i64 T.kind, .int .i64 T.pos, .string T.text, .bool T.neg, .slice A T.mag.length c, .slice K T.kids.length d] 27)
    obtain ⟨c0, c1, c2, c3, c4, c5⟩ := (cellsN_new w T A c K d 27).box
    unfold ndV
    clear hKs hN
    go_enter Tryz.func74, Tryz.ntmps74
    go_wp2_with fail
    go_ret
    exact ⟨by show Ending.returned (.bool _) = _; simp [Fm.ev, HE2.out], hb1⟩
  · obtain ⟨m, hm⟩ : ∃ m, T.kids.length = m + 1 := ⟨T.kids.length - 1, by omega⟩
    obtain ⟨t, ht⟩ : ∃ t, T.kids[m]? = some t := ⟨_, List.getElem?_eq_getElem (by omega)⟩
    obtain ⟨b, off, A', c', K', d', hKe, hC, hNt⟩ := hN.kid ht
    subst hKe
    have hdl : T.kids.dropLast = T.kids.take m := by rw [List.dropLast_eq_take, hm]; rfl
    have hdr : T.kids.drop (T.kids.length - 1) = [t] := by
      obtain ⟨q1, q2⟩ := List.getElem?_eq_some_iff.1 ht
      rw [hm, Nat.add_sub_cancel, List.drop_eq_getElem_cons q1, q2, List.drop_eq_nil_of_le (by omega)]
    have hEv : Fm.dfn.ev Nd.right T = (paramsB Nd.right false (T.kids.take m) && Sh.block.ev Nd.right t) := by
      simp only [Fm.ev, hdl, hdr]
      rw [decide_eq_true (by omega)]
      simp
    rw [hEv]
    have hbx := (Below.refl w.heap.size w).alloc (Nat.le_refl _) (.cells #[.int .i64 T.kind, .int .i64 T.pos, .string T.text, .bool T.neg, .slice A T.mag.length c, .slice (some ⟨b, off, none⟩) T.kids.length d] 27)
    have hwt : Within D (T.kids.take m) := fun t ht => hWi t (List.mem_of_mem_take ht)
    have hmd : m + 1 ≤ d := by have := hkp.2.2.2.2.1; omega
    have HPar := Lib.hid (fun W (hb : Below w.heap.size w W) => tParams_ok D hRi (T.kids.take m) m (some ⟨b, off, none⟩) d W (by rw [List.length_take]; omega) ((hkp.2.2.2.2.2.2.2.2.2.later hb).take m) hwt (by omega) hkp.2.2.2.2.2.1 (Utf8Tabs_below hT hb))
    have hds := hWi t (List.mem_of_getElem? ht)
    have HBl := Lib.hid (fun W (hb : Below w.heap.size w W) => by
      have := tBlock_ok D hRi t A' c' K' d' W hds.1 hds.2 (hNt.later hb) (Utf8Tabs_below hT hb)
      unfold ndV at this
      exact this)
    have o1 : (T.kids.length : Int) - 1 = (m : Int) := by omega
    have o3 : (0 : Int) ≤ (m : Int) := by omega
    have o4 : (m : Int) ≤ (d : Int) := by omega
    have o5 : (m : Int) < (T.kids.length : Int) := by omega
    have o6 : m ≤ d := by omega
    have o7 : m < T.kids.length := by omega
    have o8 : decide (0 ≤ (m : Int)) = true := decide_eq_true o3
    have hC1 := hC.later hbx
    obtain ⟨n0, n1, n2, n3, n4, n5⟩ := hC1
    generalize hpr : paramsB Nd.right false (T.kids.take m) = pr at *
    generalize hbr : Sh.block.ev Nd.right t = br at *
    clear hpr hbr hEv hdl hdr hm h0 ht hC hNt hds hwt hkp hWi hbx hRi hT
    cases pr
    · obtain ⟨hm1, hm2, hrm, hw32, hk1, hk2, hk64, ha64, hts, hKs⟩ := hN.parts
      unfold maxLen at hm2 hk2 hts
      obtain ⟨hk64a, hk64b⟩ := hk64
      obtain ⟨ha64a, ha64b⟩ := ha64
      have HK := Lib.hid (fun (i : Nat) (t : Nd) (hi : T.kids[i]? = some t) => hN.kid hi)
      have hb1 := (Below.refl w.heap.size w).alloc (Nat.le_refl _) (.cells #[.int .i64 T.kind, .int .i64 T.pos, .string T.text, .bool T.neg, .slice A T.mag.length c, .slice (some ⟨b, off, none⟩) T.kids.length d] 27)
      obtain ⟨c0, c1, c2, c3, c4, c5⟩ := (cellsN_new w T A c (some ⟨b, off, none⟩) d 27).box
      unfold ndV
      clear hKs hN
      go_enter Tryz.func74, Tryz.ntmps74
      go_wp2_with (first | (go_at_call 136; refine (HPar.out _ hb1).mono ?_; rintro e w3 ⟨rfl, hb3⟩; have hw3 := hb1.trans (hb3.mono hb1.size); have p5 := cell_later hb3 c5; have k0 := cell_later hb3 n0; have k1 := cell_later hb3 n1; have k2 := cell_later hb3 n2; have k3 := cell_later hb3 n3; have k4 := cell_later hb3 n4; have k5 := cell_later hb3 n5; have hlb := World.block_lt_of_cell? _ _ k0; have hlw := World.block_lt_of_cell? _ _ p5))
      go_ret
      exact ⟨rfl, hw3⟩
    · obtain ⟨hm1, hm2, hrm, hw32, hk1, hk2, hk64, ha64, hts, hKs⟩ := hN.parts
      unfold maxLen at hm2 hk2 hts
      obtain ⟨hk64a, hk64b⟩ := hk64
      obtain ⟨ha64a, ha64b⟩ := ha64
      have HK := Lib.hid (fun (i : Nat) (t : Nd) (hi : T.kids[i]? = some t) => hN.kid hi)
      have hb1 := (Below.refl w.heap.size w).alloc (Nat.le_refl _) (.cells #[.int .i64 T.kind, .int .i64 T.pos, .string T.text, .bool T.neg, .slice A T.mag.length c, .slice (some ⟨b, off, none⟩) T.kids.length d] 27)
      obtain ⟨c0, c1, c2, c3, c4, c5⟩ := (cellsN_new w T A c (some ⟨b, off, none⟩) d 27).box
      unfold ndV
      clear hKs hN
      go_enter Tryz.func74, Tryz.ntmps74
      go_wp2_with (first | (go_at_call 136; refine (HPar.out _ hb1).mono ?_; rintro e w3 ⟨rfl, hb3⟩; have hw3 := hb1.trans (hb3.mono hb1.size); have p5 := cell_later hb3 c5; have k0 := cell_later hb3 n0; have k1 := cell_later hb3 n1; have k2 := cell_later hb3 n2; have k3 := cell_later hb3 n3; have k4 := cell_later hb3 n4; have k5 := cell_later hb3 n5; have hlb := World.block_lt_of_cell? _ _ k0; have hlw := World.block_lt_of_cell? _ _ p5) | (go_at_call 71; refine (HBl.out _ hw3).mono ?_; rintro e w4 ⟨rfl, hb4⟩))
      go_ret
      exact ⟨rfl, hw3.trans (hb4.mono hw3.size)⟩
end
end Go.Proofs.YtjefhdlncikhmaaGreatDoor
