/- The law WholeSplits. -/
import Derived.Test.YtegdbcnloodljaaDoorD6
import Derived.Test.YtegdbcnloodljaaDoorR7
import Derived.Test.YtegdbcnloodljaaDoorVals
import Derived.Test.YtegdbcnloodljaaDoorRest
import Derived.Test.YtegdbcnloodljaaDoorWAwake
import Derived.Deep.RegionHeld3
import Derived.Deep.RegionWith
import Derived.Deep.Cut
import Derived.Deep.DeepCutAuto
namespace Go.Proofs.YtegdbcnloodljaaDoor
set_option linter.unusedVariables false
set_option linter.unusedSimpArgs false
open Go.RowKit
set_option maxRecDepth 1000000

theorem us_w32s (us : List U32) : W32 (vals us) := by
  intro x hx
  obtain ⟨u, _, rfl⟩ := List.mem_map.1 hx
  exact u.2
/-- rest and quotient: what a law says of them. -/
theorem dv_id (X Y : Int) : dq X Y * Y + dr X Y = X := by
  unfold dq dr
  split
  · rw [Int.mul_comm]; exact Int.mul_ediv_add_emod X Y
  · have := Int.mul_ediv_add_emod (-X) (-Y)
    rw [Int.neg_mul] at this
    rw [Int.mul_comm]
    generalize Y * (-X / -Y) = Z at *
    omega
theorem dr_pos {X Y : Int} (h : 0 < Y) : 0 ≤ dr X Y ∧ dr X Y < Y := by
  rw [dr, if_pos h]; exact ⟨Int.emod_nonneg _ (by omega), Int.emod_lt_of_pos _ h⟩
theorem dr_neg {X Y : Int} (h : Y < 0) : dr X Y ≤ 0 ∧ Y < dr X Y := by
  rw [dr, if_neg (by omega)]
  have h1 := Int.emod_nonneg (-X) (b := -Y) (by omega)
  have h2 := Int.emod_lt_of_pos (-X) (b := -Y) (by omega)
  omega
theorem dr_sm {X Y : Int} {k : Nat} (h : Y ≠ 0) (hs : Sm Y k) : Sm (dr X Y) k := by
  unfold Sm at *
  rcases Int.lt_or_gt_of_ne h with h | h
  · have := dr_neg (X := X) h; omega
  · have := dr_pos (X := X) h; omega
theorem dq_sm {X Y : Int} {k : Nat} (hs : Sm X k) : Sm (dq X Y) k := by
  unfold Sm dq at *
  split
  · have := Int.natAbs_ediv_le_natAbs X Y; omega
  · have := Int.natAbs_ediv_le_natAbs (-X) (-Y); rw [Int.natAbs_neg X] at this; omega
theorem rest_num (neg : Bool) (m v : Int) (hm : 1 ≤ m) : restRes neg m (v % m) = dr (if neg then -v else v) m := by
  rw [dr, if_pos (by omega)]
  cases neg with
  | false => rfl
  | true =>
    simp only [restRes, if_true, Bool.true_and, decide_eq_true_eq]
    have h0 := Int.emod_nonneg v (b := m) (by omega)
    have h1 := Int.emod_lt_of_pos v (b := m) (by omega)
    have h3 := Int.mul_ediv_add_emod v m
    by_cases hz : v % m = 0
    · have : (-v) % m = 0 := Int.emod_eq_zero_of_dvd (Int.dvd_neg.2 (Int.dvd_of_emod_eq_zero hz))
      rw [hz, this]; rfl
    · have : (-v) % m = m - v % m := by
        refine ((Int.ediv_emod_unique (a := -v) (b := m) (r := m - v % m) (q := -(v / m) - 1) (by omega)).2 ⟨?_, by omega, by omega⟩).2
        rw [Int.mul_sub, Int.mul_neg]; omega
      rw [if_pos (by omega), this]
theorem cmp3_eq (X : Int) : cmp3 X X = 0 := by unfold cmp3; simp
theorem cmp3_lt {X Y : Int} (h : X < Y) : cmp3 X Y = -1 := by unfold cmp3; simp [h]
theorem cmp3_gt {X Y : Int} (h : Y < X) : cmp3 X Y = 1 := by unfold cmp3; rw [if_neg (by omega), if_pos h]
theorem cmp3_le {X Y : Int} (h : X ≤ Y) : cmp3 X Y = 0 ∨ cmp3 X Y = -1 := by unfold cmp3; split <;> (try split) <;> omega
theorem cmp3_ge {X Y : Int} (h : Y ≤ X) : cmp3 X Y = 0 ∨ cmp3 X Y = 1 := by unfold cmp3; split <;> (try split) <;> omega
theorem isI_zero (w : World) : IsI w false none 0 0 0 := ⟨[], rfl, fun i hi => absurd hi (Nat.not_lt_zero i), W32.nil, Nat.le_refl _, by omega, by simp, rfl⟩
section
variable {w : World} {b1 b2 : Bool} {A B : Option Addr} {m n c d : Nat} {X Y : Int}
/-- what is handed back of a division that is not refused. -/
def RetDv (w : World) (Q R : Int) (e : Ending) (w' : World) : Prop := ∃ A1 n1 c1 A2 n2 c2, e = .returned (.tuple #[.agg #[.bool (cb (some Q)), .slice A1 n1 c1], .agg #[.bool (cb (some R)), .slice A2 n2 c2], .int .i64 0]) ∧ n1 = (cz (some Q)).length ∧ n2 = (cz (some R)).length ∧ CanAt w' w.heap.size (some Q) A1 c1 ∧ CanAt w' w.heap.size (some R) A2 c2 ∧ Below w.heap.size w w'
theorem vDivide (h : IsI w b1 A m c X) (h' : IsI w b2 B n d Y) {k j : Nat} (h1 : Sm X k) (h2 : Sm Y j) (hk : k ≤ 255) (hj : j ≤ 255) (h0 : Y ≠ 0) : Calls Tryd.prog 41 #[.agg #[.bool b1, .slice A m c], .agg #[.bool b2, .slice B n d]] w (RetDv w (dq X Y) (dr X Y)) := by
  obtain ⟨xs, rfl, r1, q1, l1, m1, _, v1⟩ := h
  obtain ⟨ys, rfl, r2, q2, l2, m2, _, v2⟩ := h'
  have := wDivide_ok b1 b2 A B c d xs ys w q1 q2 r1 r2 l1 m1 l2 m2
  rw [v1, v2] at this
  have e1 : big X = false := h1.big (by omega)
  have e2 : big Y = false := h2.big (by omega)
  have e3 : big (dq X Y) = false := (dq_sm h1).big (by omega)
  have hO : dvO X Y = false := by rw [dvO, e1, e2, e3, decide_eq_false h0]; rfl
  have hQ : dvQ X Y = some (dq X Y) := by rw [dvQ, hO]; rfl
  have hR : dvR X Y = some (dr X Y) := by rw [dvR, hO]; rfl
  have hE : dvE X Y = 0 := by rw [dvE, e1, e2, e3, if_neg (by decide), if_neg h0]; rfl
  unfold RetDiv at this
  rw [hQ, hR, hE] at this
  refine this.mono ?_
  rintro e w' ⟨A1, c1, A2, c2, he, hc1, hc2, hb⟩
  exact ⟨A1, _, c1, A2, _, c2, he, rfl, rfl, hc1, hc2, hb⟩
theorem vDivZero (h : IsI w b1 A m c X) (h' : IsI w b2 B n d 0) {k : Nat} (h1 : Sm X k) (hk : k ≤ 255) : Calls Tryd.prog 41 #[.agg #[.bool b1, .slice A m c], .agg #[.bool b2, .slice B n d]] w (fun e w' => ∃ A1 c1 A2 c2, e = .returned (.tuple #[.agg #[.bool false, .slice A1 0 c1], .agg #[.bool false, .slice A2 0 c2], .int .i64 2]) ∧ Below w.heap.size w w') := by
  obtain ⟨xs, rfl, r1, q1, l1, m1, _, v1⟩ := h
  obtain ⟨ys, rfl, r2, q2, l2, m2, _, v2⟩ := h'
  have := wDivide_ok b1 b2 A B c d xs ys w q1 q2 r1 r2 l1 m1 l2 m2
  rw [v1, v2] at this
  have e1 : big X = false := h1.big (by omega)
  have e2 : big 0 = false := by decide
  have hO : dvO X 0 = true := by rw [dvO, e1, e2]; rfl
  have hE : dvE X 0 = 2 := by rw [dvE, e1, e2]; rfl
  unfold RetDiv at this
  rw [(dv_none hO).1, (dv_none hO).2, hE] at this
  refine this.mono ?_
  rintro e w' ⟨A1, c1, A2, c2, he, hc1, hc2, hb⟩
  exact ⟨A1, c1, A2, c2, he, hb⟩
theorem vTimes2 (h : IsI w b1 A m c X) (h' : IsI w b2 B n d Y) {j k : Nat} (h1 : Sm X j) (h2 : Sm Y k) (hk : j + k ≤ 256) : Calls Tryd.prog 32 #[.agg #[.bool b1, .slice A m c], .agg #[.bool b2, .slice B n d]] w (RetCT w (X * Y) (.bool true)) := by
  obtain ⟨xs, rfl, r1, q1, l1, m1, _, v1⟩ := h
  obtain ⟨ys, rfl, r2, q2, l2, m2, _, v2⟩ := h'
  refine (wTimes_ok b1 b2 A B c d xs ys w q1 q2 r1 r2 l1 m1 l2 m2 (X * Y) ?_).mono ?_
  · rw [v1, v2, mulO, h1.big (by omega), h2.big (by omega), (h1.mul h2).big hk]; rfl
  · rintro e w' ⟨A', c', he, hc, hb⟩
    exact ⟨A', _, c', he, rfl, hc, hb⟩
end

end Go.Proofs.YtegdbcnloodljaaDoor
