/- The reference's Compare (chapter 1). -/
import Derived.Test.YtegdbcnloodljaaDoorR8
import Derived.Test.YtegdbcnloodljaaDoorW2
import Derived.Deep.RegionHeld3
namespace Go.Proofs.YtegdbcnloodljaaDoor
set_option linter.unusedVariables false
set_option linter.unusedSimpArgs false
open Go.RowKit
set_option maxRecDepth 1000000

/-- the blocks of two Ints that are turned. -/
def B2 (w : World) (a0 a1 b0 b1 : Value) (W : World) : Prop :=
  W.cell? ⟨w.heap.size, 0, none⟩ = some a0 ∧ W.cell? ⟨w.heap.size, 1, none⟩ = some a1 ∧ W.cell? ⟨w.heap.size + 1, 0, none⟩ = some b0 ∧ W.cell? ⟨w.heap.size + 1, 1, none⟩ = some b1 ∧
  W.frozen? ⟨w.heap.size, 0, none⟩ = false ∧ W.frozen? ⟨w.heap.size, 1, none⟩ = false ∧ W.frozen? ⟨w.heap.size + 1, 0, none⟩ = false ∧ W.frozen? ⟨w.heap.size + 1, 1, none⟩ = false ∧ w.heap.size + 2 ≤ W.heap.size
theorem B2.later {w : World} {a0 a1 b0 b1 : Value} {W W' : World} (h : B2 w a0 a1 b0 b1 W) (hb : Below W.heap.size W W') : B2 w a0 a1 b0 b1 W' := by
  obtain ⟨h1, h2, h3, h4, h7, h8, h9, h10, h13⟩ := h
  exact ⟨cell_later hb h1, cell_later hb h2, cell_later hb h3, cell_later hb h4, frozen_later h7 (by show w.heap.size < _; omega) hb, frozen_later h8 (by show w.heap.size < _; omega) hb, frozen_later h9 (by show w.heap.size + 1 < _; omega) hb, frozen_later h10 (by show w.heap.size + 1 < _; omega) hb, Nat.le_trans h13 hb.size⟩
theorem B2.setA {w : World} {a0 a1 b0 b1 : Value} {W : World} (h : B2 w a0 a1 b0 b1 W) (x y : Value) : B2 w x y b0 b1 ((W.setCell ⟨w.heap.size, 0, none⟩ x).setCell ⟨w.heap.size, 1, none⟩ y) := by
  obtain ⟨h1, h2, h3, h4, h7, h8, h9, h10, h13⟩ := h
  obtain ⟨t1, t2⟩ := two_cells (x := x) (y := y) h1 h2
  refine ⟨t1, t2, cell_off (cell_off h3 (by simp)) (by simp), cell_off (cell_off h4 (by simp)) (by simp), ?_, ?_, ?_, ?_, by simp; omega⟩
  all_goals (rw [World.frozen?_setCell, World.frozen?_setCell]; assumption)
theorem B2.setB {w : World} {a0 a1 b0 b1 : Value} {W : World} (h : B2 w a0 a1 b0 b1 W) (x y : Value) : B2 w a0 a1 x y ((W.setCell ⟨w.heap.size + 1, 0, none⟩ x).setCell ⟨w.heap.size + 1, 1, none⟩ y) := by
  obtain ⟨h1, h2, h3, h4, h7, h8, h9, h10, h13⟩ := h
  obtain ⟨t1, t2⟩ := two_cells (x := x) (y := y) h3 h4
  refine ⟨cell_off (cell_off h1 (by simp)) (by simp), cell_off (cell_off h2 (by simp)) (by simp), t1, t2, ?_, ?_, ?_, ?_, by simp; omega⟩
  all_goals (rw [World.frozen?_setCell, World.frozen?_setCell]; assumption)
theorem cmp3_canon (X Y : Int) : (cb (some X) ≠ cb (some Y) → cmp3 X Y = if cb (some X) then -1 else 1) ∧ (cb (some X) = cb (some Y) → cmp3 X Y = if cb (some X) then -(cmp3 (val (cz (some X))) (val (cz (some Y)))) else cmp3 (val (cz (some X))) (val (cz (some Y)))) := by
  rw [cz, cz, val_wds, val_wds]
  unfold cb cmp3
  by_cases h1 : X < 0 <;> by_cases h2 : Y < 0
  · simp only [h1, h2, decide_true, ne_eq, not_true_eq_false, false_implies, forall_const, if_true, true_and]
    by_cases h3 : X < Y
    · rw [if_pos h3, if_neg (by omega), if_pos (by omega)]
    · by_cases h4 : Y < X
      · rw [if_neg h3, if_pos h4, if_pos (by omega)]; rfl
      · rw [if_neg h3, if_neg h4, if_neg (by omega), if_neg (by omega)]; rfl
  · simp only [h1, h2, decide_true, decide_false]
    refine ⟨fun _ => by rw [if_pos (by omega)]; rfl, fun h => by cases h⟩
  · simp only [h1, h2, decide_true, decide_false]
    refine ⟨fun _ => by rw [if_neg (by omega), if_pos (by omega)]; rfl, fun h => by cases h⟩
  · simp only [h1, h2, decide_false, ne_eq, not_true_eq_false, false_implies, forall_const, Bool.false_eq_true, if_false, true_and]
    have e1 : (X.natAbs : Int) = X := by omega
    have e2 : (Y.natAbs : Int) = Y := by omega
    rw [e1, e2]

set_option maxHeartbeats 4000000 in
theorem refCompare_ok (b1 b2 : Bool) (A B : Option Addr) (c d : Nat) (xs ys : List Int) (w : World) (hX : W32 xs) (hY : W32 ys) (hr : RdI w .u32 A xs) (hs : RdI w .u32 B ys) (hl : xs.length ≤ c) (hc : c ≤ 9223372036854775807) (hl2 : ys.length ≤ d) (hd : d ≤ 9223372036854775807) (hm : xs.length ≤ 400000) (hm2 : ys.length ≤ 400000) :
    Calls Tryd.prog 30 #[.agg #[.bool b1, .slice A xs.length c], .agg #[.bool b2, .slice B ys.length d]] w fun e w' => e = .returned (.int .i64 (cmp3 (valI b1 xs) (valI b2 ys))) ∧ Below w.heap.size w w' := by
  obtain ⟨W0, hW0⟩ : ∃ W0, (w.alloc (.cells #[.bool b1, .slice A xs.length c] 24)).alloc (.cells #[.bool b2, .slice B ys.length d] 24) = W0 := ⟨_, rfl⟩
  have hw0 : Below w.heap.size w W0 := by rw [← hW0]; exact ((Below.refl _ _).alloc (Nat.le_refl _) _).alloc (by simp) _
  have hb3 : B2 w (.bool b1) (.slice A xs.length c) (.bool b2) (.slice B ys.length d) W0 := by
    rw [← hW0]
    refine ⟨?_, ?_, ?_, ?_, ?_, ?_, ?_, ?_, ?_⟩ <;> simp [go_sem]
  have hF1 := fun W (hb : Below w.heap.size w W) => refForm_can b1 A c xs W hX (hr.later hb) hl hc (by omega)
  have hF2 := fun W (hb : Below w.heap.size w W) => refForm_can b2 B d ys W hY (hs.later hb) hl2 hd (by omega)
  have l1 := cz_le (b := b1) hX
  have l2 := cz_le (b := b2) hY
  generalize valI b1 xs = X at *
  generalize valI b2 ys = Y at *
  clear hX hY hr hs
  obtain ⟨hne, heq⟩ := cmp3_canon X Y
  have HSz := Lib.hid (fun (A3 A4 : Option Addr) (c3 c4 : Nat) (W : World) (base base' : Nat) (h3 : CanAt W base (some X) A3 c3) (h4 : CanAt W base' (some Y) A4 c4) => refSize_ok A3 A4 c3 c4 (cz (some X)) (cz (some Y)) W (cz_w32 _) (cz_w32 _) (cz_nt _) (cz_nt _) h3.2.2.rd h4.2.2.rd h3.1 h3.2.1 h4.1 h4.2.1)
  have hcr := cmp3_range (val (cz (some X))) (val (cz (some Y)))
  obtain ⟨C, hC⟩ : ∃ C, cmp3 (val (cz (some X))) (val (cz (some Y))) = C := ⟨_, rfl⟩
  rw [hC] at HSz heq hcr
  obtain ⟨R, hR⟩ : ∃ R, cmp3 X Y = R := ⟨_, rfl⟩
  rw [hR] at hne heq ⊢
  have hwr : IntKind.i64.wrap (-C) = -C := by rcases hcr with rfl | rfl | rfl <;> decide
  have hwr2 : wrap64 (-C) = -C := by unfold wrap64; omega
  clear hC hR
  obtain ⟨bx, hbx⟩ : ∃ b, cb (some X) = b := ⟨_, rfl⟩
  obtain ⟨by', hby⟩ : ∃ b, cb (some Y) = b := ⟨_, rfl⟩
  simp only [hbx] at hF1 hne heq
  simp only [hby] at hF2 hne heq
  clear hbx hby hcr
  have hb3' := hb3
  obtain ⟨k1, k2, k3, k4, k5, k6, k7, k8, k9⟩ := hb3'
  cases bx <;> cases by'
  all_goals
    first
      | (have hRe := hne (by decide); simp only [Bool.false_eq_true, if_false, if_true] at hRe; subst hRe)
      | (have hRe := heq rfl; simp only [Bool.false_eq_true, if_false, if_true] at hRe; subst hRe)
    clear hne heq
    go_enter Tryd.func30, Tryd.ntmps30
    go_wp2_with fail
    go_at_call 37
    refine (hF1 _ hw0).mono ?_
    rintro e w3 ⟨A3, c3, rfl, hc3, b3⟩
    have hB3 := hw0.trans (b3.mono hw0.size)
    have hb33 := hb3.later b3
    have hc3 := hc3.mono (show w.heap.size + 2 ≤ _ from k9)
    clear hb3 k1 k2 k3 k4 k5 k6 k7 k8 k9
    have hc3' := fun x y => hc3.two w.heap.size (by omega) x y
    have hB3' := fun x y => low_set hB3 w.heap.size (Nat.le_refl _) x y
    have hb34' := fun x y => hb33.setA x y
    obtain ⟨g1, g2, g3, g4, g5, g6, g7, g8, g9⟩ := hb33
    go_wp2_with fail
    go_at_call 37
    refine (hF2 _ (hB3' _ _)).mono ?_
    rintro e w4 ⟨A4, c4, rfl, hc4, b4⟩
    have hB4 := (hB3' _ _).trans (b4.mono (hB3' _ _).size)
    have hb35 := (hb34' _ _).later b4
    have hc3 := (hc3' _ _).later b4
    have hc4 := hc4.mono (show w.heap.size + 2 ≤ _ from by simp; omega)
    clear hc3' hB3' hb34' g1 g2 g3 g4 g5 g6 g7 g8 g9
    obtain ⟨h1, h2, h3, h4, h5, h6, h7, h8, h9⟩ := hb35
    go_wp2_with (go_at_call 67; refine (HSz.out A3 A4 c3 c4 _ _ _ (hc3.two (w.heap.size + 1) (by omega) _ _) (hc4.two (w.heap.size + 1) (by omega) _ _)).mono ?_; rintro e w5 ⟨rfl, b5⟩; have hB5 := (low_set hB4 (w.heap.size + 1) (by omega) _ _).trans (b5.mono (low_set hB4 (w.heap.size + 1) (by omega) _ _).size); have t1 := cell_later b5 (cell_off (cell_off h1 (by simp)) (by simp)); have t9 : w.heap.size + 2 ≤ w5.heap.size := Nat.le_trans (by simp; omega) b5.size)
    first
      | (go_ret; exact ⟨rfl, hB5⟩)
      | (go_ret; exact ⟨by simp only [hwr, hwr2], hB5⟩)
      | (go_ret; exact ⟨rfl, low_set hB4 (w.heap.size + 1) (by omega) _ _⟩)
      | (trace_state; sorry)
end Go.Proofs.YtegdbcnloodljaaDoor
