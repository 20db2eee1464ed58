/- The law WholeRests. -/
import Derived.Test.YtegdbcnloodljaaDoorWAwake
import Derived.Test.YtegdbcnloodljaaDoorRefRest
namespace Go.Proofs.YtegdbcnloodljaaDoor
set_option linter.unusedVariables false
set_option linter.unusedSimpArgs false
open Go.RowKit
set_option maxRecDepth 1000000

set_option maxHeartbeats 400000 in
theorem refRest_arg2 (v : Value) (neg : Bool) (A : Option Addr) (n c : Nat) (m : Int) (w : World) (hv : v = .agg #[.bool neg, .slice A n c]) (h : m < 1 ∨ 4611686018427387904 < m) :
    Calls Tryd.prog 40 #[v, .int .i64 m] w fun e w' => e = .returned (.tuple #[.int .i64 0, .int .i64 1]) ∧ Below w.heap.size w w' := by
  subst hv
  rcases h with h | h
  all_goals
    go_enter Tryd.func40, Tryd.ntmps40
    go_wp2
    go_ret2
    exact ⟨rfl, ((Below.refl _ _).alloc (Nat.le_refl _) _)⟩

/-- the block of one Int in a later world. -/
theorem boxes1 (w : World) (a0 a1 : Value) (W : World) (h : Below (w.heap.size + 1) (w.alloc (.cells #[a0, a1] 24)) W) :
    W.cell? ⟨w.heap.size, 0, none⟩ = some a0 ∧ W.cell? ⟨w.heap.size, 1, none⟩ = some a1 ∧ w.heap.size < W.heap.size := by
  refine ⟨(h.cell (p := ⟨w.heap.size, 0, none⟩) (by simp)).trans (by simp [go_sem]), (h.cell (p := ⟨w.heap.size, 1, none⟩) (by simp)).trans (by simp [go_sem]), ?_⟩
  have := h.size
  simp at this
  omega

set_option maxHeartbeats 2000000 in
theorem lawRests_any (b : Bool) (A : Option Addr) (c : Nat) (us : List U32) (m : Int) (w : World) (hr : RdI w .u32 A (vals us)) (hl : us.length ≤ c) (hc : c ≤ maxLen) (hm : -9223372036854775808 ≤ m ∧ m ≤ 9223372036854775807) :
    Calls Tryd.prog 8 #[.agg #[.bool b, .slice A us.length c], .int .i64 m] w fun e w' => e = .returned (.bool true) ∧ Below w.heap.size w w' := by
  have hc' : c ≤ 9223372036854775807 := hc
  have hL := fun W => large_ok b A c us.length W
  have hw0 : Below w.heap.size w (w.alloc (.cells #[.bool b, .slice A us.length c] 24)) := (Below.refl _ _).alloc (Nat.le_refl _) _
  have hz0 : Below (w.heap.size + 1) (w.alloc (.cells #[.bool b, .slice A us.length c] 24)) (w.alloc (.cells #[.bool b, .slice A us.length c] 24)) := Below.refl _ _
  by_cases hlg : 600 < us.length
  · rw [decide_eq_true hlg] at hL
    go_enter Tryd.func8, Tryd.ntmps8
    go_wp2_with (first
      | (go_at_call 20; refine (hL _).mono ?_; rintro e w1 ⟨rfl, hb1⟩; have hz1 := hz0.trans (hb1.mono (by simp)); obtain ⟨j1, j2, j3⟩ := boxes1 w _ _ w1 hz1; have hb1 := hw0.trans (hb1.mono hw0.size))
      | (go_at_call 12; refine (wawake_ok _).mono ?_; rintro e w2 ⟨rfl, hb2⟩))
    go_ret
    exact ⟨rfl, hb1.trans (hb2.mono hb1.size)⟩
  · rw [decide_eq_false hlg] at hL
    obtain ⟨X, E, hR1, hR2, hX, hE⟩ : ∃ X E : Int, (∀ W, Below w.heap.size w W → Calls Tryd.prog 39 #[.agg #[.bool b, .slice A us.length c], .int .i64 m] W fun e w' => e = .returned (.tuple #[.int .i64 X, .int .i64 E]) ∧ Below W.heap.size W w') ∧
        (∀ W, Below w.heap.size w W → Calls Tryd.prog 40 #[.agg #[.bool b, .slice A us.length c], .int .i64 m] W fun e w' => e = .returned (.tuple #[.int .i64 X, .int .i64 E]) ∧ Below W.heap.size W w') ∧ True ∧ (0 ≤ E ∧ E ≤ 1) := by
      by_cases h : m < 1 ∨ 4611686018427387904 < m
      · exact ⟨0, 1, fun W _ => rest_arg _ b A _ c m W rfl h, fun W _ => refRest_arg2 _ b A _ c m W rfl h, trivial, by omega⟩
      · exact ⟨_, 0, fun W hb => rest_any b A c us m W (hr.later hb) hl hc' (by omega) (by omega), fun W hb => refRest_any b A c us m W (hr.later hb) hl hc' (by omega) (by omega) (by omega), trivial, by omega⟩
    have eq1 : (X == X) = true := by simp
    have eq2 : (E == E) = true := by simp
    go_enter Tryd.func8, Tryd.ntmps8
    go_wp2_with (first
      | (go_at_call 20; refine (hL _).mono ?_; rintro e w1 ⟨rfl, hb1⟩; have hz1 := hz0.trans (hb1.mono (by simp)); obtain ⟨j1, j2, j3⟩ := boxes1 w _ _ w1 hz1; have hb1 := hw0.trans (hb1.mono hw0.size))
      | (go_at_call 39; refine (hR1 _ hb1).mono ?_; rintro e w2 ⟨rfl, hb2⟩; have hz2 := hz1.trans (hb2.mono j3); obtain ⟨i1, i2, i3⟩ := boxes1 w _ _ w2 hz2; have hB2 := hb1.trans (hb2.mono hb1.size))
      | (go_at_call 40; refine (hR2 _ hB2).mono ?_; rintro e w3 ⟨rfl, hb3⟩; have hB3 := hB2.trans (hb3.mono hB2.size))
      | (go_at_call 12; refine (wawake_ok _).mono ?_; rintro e w4 ⟨rfl, hb4⟩))
    go_ret
    exact ⟨rfl, hB3.trans (hb4.mono hB3.size)⟩
end Go.Proofs.YtegdbcnloodljaaDoor
