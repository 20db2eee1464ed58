/- whole: Compare. -/
import Derived.Test.YtegdbcnloodljaaDoorW1
import Derived.Deep.RegionWith
import Derived.Deep.RegionHeld3
namespace Go.Proofs.YtegdbcnloodljaaDoor
set_option linter.unusedVariables false
set_option linter.unusedSimpArgs false
open Go.RowKit
set_option maxRecDepth 1000000

theorem below_drew {B : Nat} {a w : World} (h : Below B a w) : Below B a w.drew := h.trans ⟨rfl, rfl, rfl, Nat.le_refl _, fun _ _ => rfl⟩

theorem cmp_signs (b1 b2 : Bool) (x y : Int) (hx : 0 ≤ x) (hy : 0 ≤ y) :
    let X := if b1 then -x else x
    let Y := if b2 then -y else y
    (sgn3 X < sgn3 Y → cmp3 X Y = -1) ∧ (sgn3 Y < sgn3 X → cmp3 X Y = 1) ∧ (sgn3 X = sgn3 Y → sgn3 X * cmp3 x y = cmp3 X Y) := by
  cases b1 <;> cases b2 <;> simp only [sgn3, cmp3, if_true, Bool.false_eq_true, if_false] <;> refine ⟨?_, ?_, ?_⟩ <;> intro h <;> (repeat' split at h) <;> (repeat' split) <;> omega

theorem sgn3_range (x : Int) : sgn3 x = -1 ∨ sgn3 x = 0 ∨ sgn3 x = 1 := by unfold sgn3; split <;> (try split) <;> omega
theorem cmp3_range (x y : Int) : cmp3 x y = -1 ∨ cmp3 x y = 0 ∨ cmp3 x y = 1 := by unfold cmp3; split <;> (try split) <;> omega

/-- the blocks of two Ints in a later world. -/
theorem boxes2p (w : World) (a0 a1 b0 b1 : Value) (W : World) (h : Below (w.heap.size + 2) ((w.alloc (.cells #[a0, a1] 24)).alloc (.cells #[b0, b1] 24)) W) :
    W.cell? ⟨w.heap.size, 0, none⟩ = some a0 ∧ W.cell? ⟨w.heap.size, 1, none⟩ = some a1 ∧ W.cell? ⟨w.heap.size + 1, 0, none⟩ = some b0 ∧ W.cell? ⟨w.heap.size + 1, 1, none⟩ = some b1 ∧ w.heap.size + 2 ≤ W.heap.size := by
  refine ⟨(h.cell (p := ⟨w.heap.size, 0, none⟩) (by simp)).trans (by simp [go_sem]), (h.cell (p := ⟨w.heap.size, 1, none⟩) (by simp)).trans (by simp [go_sem]), (h.cell (p := ⟨w.heap.size + 1, 0, none⟩) (by simp)).trans (by simp [go_sem]), (h.cell (p := ⟨w.heap.size + 1, 1, none⟩) (by simp)).trans (by simp [go_sem]), ?_⟩
  have := h.size
  simp at this
  omega


set_option maxHeartbeats 1000000 in
theorem wCompare_ok (b1 b2 : Bool) (A B : Option Addr) (c d : Nat) (xs ys : List Int) (w : World) (hX : W32 xs) (hY : W32 ys) (hr : RdI w .u32 A xs) (hs : RdI w .u32 B ys) (hl : xs.length ≤ c) (hc : c ≤ 9223372036854775807) (hl2 : ys.length ≤ d) (hd : d ≤ 9223372036854775807) :
    Calls Tryd.prog 13 #[.agg #[.bool b1, .slice A xs.length c], .agg #[.bool b2, .slice B ys.length d]] w fun e w' => e = .returned (.int .i64 (cmp3 (valI b1 xs) (valI b2 ys))) ∧ Below w.heap.size w w' := by
  have h3 := Lib.hid (fun W (hb : Below w.heap.size w W) => wcompare_ok A B c d xs ys W hX hY (hr.later hb) (hs.later hb) hl hc hl2 hd)
  have hp := cmp_signs b1 b2 (val xs) (val ys) (val_nn hX) (val_nn hY)
  change (sgn3 (valI b1 xs) < sgn3 (valI b2 ys) → cmp3 (valI b1 xs) (valI b2 ys) = -1) ∧ (sgn3 (valI b2 ys) < sgn3 (valI b1 xs) → cmp3 (valI b1 xs) (valI b2 ys) = 1) ∧ (sgn3 (valI b1 xs) = sgn3 (valI b2 ys) → sgn3 (valI b1 xs) * cmp3 (val xs) (val ys) = cmp3 (valI b1 xs) (valI b2 ys)) at hp
  have r1 := sgn3_range (valI b1 xs)
  have r2 := sgn3_range (valI b2 ys)
  have r3 := cmp3_range (val xs) (val ys)
  have r4 := cmp3_range (valI b1 xs) (valI b2 ys)
  obtain ⟨R, hR⟩ : ∃ R, cmp3 (valI b1 xs) (valI b2 ys) = R := ⟨_, rfl⟩
  rw [hR] at hp r4 ⊢
  clear hR
  have hwr : wrap64 R = R := by unfold wrap64; omega
  clear r4
  have hw0 : Below w.heap.size w ((w.alloc (.cells #[.bool b1, .slice A xs.length c] 24)).alloc (.cells #[.bool b2, .slice B ys.length d] 24)) := ((Below.refl _ _).alloc (Nat.le_refl _) _).alloc (by simp) _
  have hs1 : ∀ W, Below w.heap.size w W → Calls Tryd.prog 43 #[.agg #[.bool b1, .slice A xs.length c]] W fun e w' => e = .returned (.int .i64 (sgn3 (valI b1 xs))) ∧ Below W.heap.size W w' := fun W hb => wsign_ok b1 A c xs W hX (hr.later hb) hl hc
  have hs2 : ∀ W, Below w.heap.size w W → Calls Tryd.prog 43 #[.agg #[.bool b2, .slice B ys.length d]] W fun e w' => e = .returned (.int .i64 (sgn3 (valI b2 ys))) ∧ Below W.heap.size W w' := fun W hb => wsign_ok b2 B d ys W hY (hs.later hb) hl2 hd
  obtain ⟨S, hS⟩ : ∃ S, sgn3 (valI b1 xs) = S := ⟨_, rfl⟩
  obtain ⟨T, hT⟩ : ∃ T, sgn3 (valI b2 ys) = T := ⟨_, rfl⟩
  obtain ⟨C, hC⟩ : ∃ C, cmp3 (val xs) (val ys) = C := ⟨_, rfl⟩
  rw [hS] at hp r1
  rw [hT] at hp r2
  rw [hC] at h3 hp r3
  simp only [hS] at hs1
  simp only [hT] at hs2
  have hw2 : Below 0 w w := Below.refl _ _
  have hz0 : Below (w.heap.size + 2) ((w.alloc (.cells #[.bool b1, .slice A xs.length c] 24)).alloc (.cells #[.bool b2, .slice B ys.length d] 24)) ((w.alloc (.cells #[.bool b1, .slice A xs.length c] 24)).alloc (.cells #[.bool b2, .slice B ys.length d] 24)) := Below.refl _ _
  have hz1 : ((w.alloc (.cells #[.bool b1, .slice A xs.length c] 24)).alloc (.cells #[.bool b2, .slice B ys.length d] 24)).cell? ⟨w.heap.size, 1, none⟩ = some (.slice A xs.length c) := by simp [go_sem]
  have hz2 : ((w.alloc (.cells #[.bool b1, .slice A xs.length c] 24)).alloc (.cells #[.bool b2, .slice B ys.length d] 24)).cell? ⟨w.heap.size + 1, 1, none⟩ = some (.slice B ys.length d) := by simp [go_sem]
  rcases Int.lt_trichotomy S T with h | h | h
  · have hRe := hp.1 h
    subst hRe
    clear hp r3 h3
    go_enter Tryd.func13, Tryd.ntmps13
    go_wp2_with fail
    obtain ⟨k1, k2, k3, k4, k5⟩ := boxes2p w _ _ _ _ _ hz0
    go_region_held3 (fun W => W.cell? ⟨w.heap.size, 0, none⟩ = some (.bool b1) ∧ W.cell? ⟨w.heap.size, 1, none⟩ = some (.slice A xs.length c) ∧ W.cell? ⟨w.heap.size + 1, 0, none⟩ = some (.bool b2) ∧ W.cell? ⟨w.heap.size + 1, 1, none⟩ = some (.slice B ys.length d) ∧ w.heap.size + 2 ≤ W.heap.size) (first | exact ⟨j1, j2, j3, j4, j5⟩ | exact ⟨k1, k2, k3, k4, k5⟩ | go_keep) (first | (go_at_call 43; first
      | (with_reducible refine (hs1 _ (by first | exact hw0 | exact below_drew hw0 | exact hb9 | exact below_drew hb9)).mono ?_; rintro e w1 ⟨rfl, hb1⟩; obtain ⟨ko, kf⟩ := oldCells hb1; have hsz : w.heap.size + 2 ≤ w1.heap.size := (by have h1 := hb1.size; have h0 := hw2.size; first | (simp at h1; omega) | omega); have hc9 : Below (w.heap.size + 2) ((w.alloc (.cells #[.bool b1, .slice A xs.length c] 24)).alloc (.cells #[.bool b2, .slice B ys.length d] 24)) w1 := (by first | exact hz0.trans (hb1.mono (by simp)) | exact (below_drew hz0).trans (hb1.mono (by simp)) | exact hc9.trans (hb1.mono (by have := hc9.size; simp at this ⊢; omega)) | exact (below_drew hc9).trans (hb1.mono (by have := hc9.size; simp at this ⊢; omega))); have hb9 : Below w.heap.size w w1 := (by first | exact hw0.trans (hb1.mono hw0.size) | exact (below_drew hw0).trans (hb1.mono (below_drew hw0).size) | exact hb9.trans (hb1.mono hb9.size) | exact (below_drew hb9).trans (hb1.mono (below_drew hb9).size)); obtain ⟨j1, j2, j3, j4, j5⟩ := boxes2p w _ _ _ _ w1 hc9)
      | (with_reducible refine (hs2 _ (by first | exact hw0 | exact below_drew hw0 | exact hb9 | exact below_drew hb9)).mono ?_; rintro e w1 ⟨rfl, hb1⟩; obtain ⟨ko, kf⟩ := oldCells hb1; have hsz : w.heap.size + 2 ≤ w1.heap.size := (by have h1 := hb1.size; have h0 := hw2.size; first | (simp at h1; omega) | omega); have hc9 : Below (w.heap.size + 2) ((w.alloc (.cells #[.bool b1, .slice A xs.length c] 24)).alloc (.cells #[.bool b2, .slice B ys.length d] 24)) w1 := (by first | exact hz0.trans (hb1.mono (by simp)) | exact (below_drew hz0).trans (hb1.mono (by simp)) | exact hc9.trans (hb1.mono (by have := hc9.size; simp at this ⊢; omega)) | exact (below_drew hc9).trans (hb1.mono (by have := hc9.size; simp at this ⊢; omega))); have hb9 : Below w.heap.size w w1 := (by first | exact hw0.trans (hb1.mono hw0.size) | exact (below_drew hw0).trans (hb1.mono (below_drew hw0).size) | exact hb9.trans (hb1.mono hb9.size) | exact (below_drew hb9).trans (hb1.mono (below_drew hb9).size)); obtain ⟨j1, j2, j3, j4, j5⟩ := boxes2p w _ _ _ _ w1 hc9)))
    all_goals
      go_wp2
      go_ret
      exact ⟨rfl, by first | exact hb9 | exact below_drew hb9⟩
  · have hRe := hp.2.2 h
    subst h
    clear hp
    go_enter Tryd.func13, Tryd.ntmps13
    go_wp2_with fail
    obtain ⟨k1, k2, k3, k4, k5⟩ := boxes2p w _ _ _ _ _ hz0
    go_region_held3 (fun W => W.cell? ⟨w.heap.size, 0, none⟩ = some (.bool b1) ∧ W.cell? ⟨w.heap.size, 1, none⟩ = some (.slice A xs.length c) ∧ W.cell? ⟨w.heap.size + 1, 0, none⟩ = some (.bool b2) ∧ W.cell? ⟨w.heap.size + 1, 1, none⟩ = some (.slice B ys.length d) ∧ w.heap.size + 2 ≤ W.heap.size) (first | exact ⟨j1, j2, j3, j4, j5⟩ | exact ⟨k1, k2, k3, k4, k5⟩ | go_keep) (first | (go_at_call 43; first
      | (with_reducible refine (hs1 _ (by first | exact hw0 | exact below_drew hw0 | exact hb9 | exact below_drew hb9)).mono ?_; rintro e w1 ⟨rfl, hb1⟩; obtain ⟨ko, kf⟩ := oldCells hb1; have hsz : w.heap.size + 2 ≤ w1.heap.size := (by have h1 := hb1.size; have h0 := hw2.size; first | (simp at h1; omega) | omega); have hc9 : Below (w.heap.size + 2) ((w.alloc (.cells #[.bool b1, .slice A xs.length c] 24)).alloc (.cells #[.bool b2, .slice B ys.length d] 24)) w1 := (by first | exact hz0.trans (hb1.mono (by simp)) | exact (below_drew hz0).trans (hb1.mono (by simp)) | exact hc9.trans (hb1.mono (by have := hc9.size; simp at this ⊢; omega)) | exact (below_drew hc9).trans (hb1.mono (by have := hc9.size; simp at this ⊢; omega))); have hb9 : Below w.heap.size w w1 := (by first | exact hw0.trans (hb1.mono hw0.size) | exact (below_drew hw0).trans (hb1.mono (below_drew hw0).size) | exact hb9.trans (hb1.mono hb9.size) | exact (below_drew hb9).trans (hb1.mono (below_drew hb9).size)); obtain ⟨j1, j2, j3, j4, j5⟩ := boxes2p w _ _ _ _ w1 hc9)
      | (with_reducible refine (hs2 _ (by first | exact hw0 | exact below_drew hw0 | exact hb9 | exact below_drew hb9)).mono ?_; rintro e w1 ⟨rfl, hb1⟩; obtain ⟨ko, kf⟩ := oldCells hb1; have hsz : w.heap.size + 2 ≤ w1.heap.size := (by have h1 := hb1.size; have h0 := hw2.size; first | (simp at h1; omega) | omega); have hc9 : Below (w.heap.size + 2) ((w.alloc (.cells #[.bool b1, .slice A xs.length c] 24)).alloc (.cells #[.bool b2, .slice B ys.length d] 24)) w1 := (by first | exact hz0.trans (hb1.mono (by simp)) | exact (below_drew hz0).trans (hb1.mono (by simp)) | exact hc9.trans (hb1.mono (by have := hc9.size; simp at this ⊢; omega)) | exact (below_drew hc9).trans (hb1.mono (by have := hc9.size; simp at this ⊢; omega))); have hb9 : Below w.heap.size w w1 := (by first | exact hw0.trans (hb1.mono hw0.size) | exact (below_drew hw0).trans (hb1.mono (below_drew hw0).size) | exact hb9.trans (hb1.mono hb9.size) | exact (below_drew hb9).trans (hb1.mono (below_drew hb9).size)); obtain ⟨j1, j2, j3, j4, j5⟩ := boxes2p w _ _ _ _ w1 hc9)))
    all_goals
      have hk1 := (hc9.cell (p := ⟨w.heap.size, 1, none⟩) (by show w.heap.size < _; omega)).trans hz1
      have hk2 := (hc9.cell (p := ⟨w.heap.size + 1, 1, none⟩) (by show w.heap.size + 1 < _; omega)).trans hz2
      go_wp2_with (go_at_call 44; refine (h3.out _ (by first | exact hb9 | exact below_drew hb9)).mono ?_; rintro e w5 ⟨rfl, hb5⟩; have hb9 : Below w.heap.size w w5 := (by first | exact hb9.trans (hb5.mono hb9.size) | exact (below_drew hb9).trans (hb5.mono (below_drew hb9).size)))
      go_ret
      exact ⟨by show Ending.returned (Value.int .i64 (wrap64 R)) = _; rw [hwr], hb9⟩
  · have hRe := hp.2.1 h
    subst hRe
    have hnl : ¬ S < T := by omega
    clear hp r3 h3
    go_enter Tryd.func13, Tryd.ntmps13
    go_wp2_with fail
    obtain ⟨k1, k2, k3, k4, k5⟩ := boxes2p w _ _ _ _ _ hz0
    go_region_held3 (fun W => W.cell? ⟨w.heap.size, 0, none⟩ = some (.bool b1) ∧ W.cell? ⟨w.heap.size, 1, none⟩ = some (.slice A xs.length c) ∧ W.cell? ⟨w.heap.size + 1, 0, none⟩ = some (.bool b2) ∧ W.cell? ⟨w.heap.size + 1, 1, none⟩ = some (.slice B ys.length d) ∧ w.heap.size + 2 ≤ W.heap.size) (first | exact ⟨j1, j2, j3, j4, j5⟩ | exact ⟨k1, k2, k3, k4, k5⟩ | go_keep) (first | (go_at_call 43; first
      | (with_reducible refine (hs1 _ (by first | exact hw0 | exact below_drew hw0 | exact hb9 | exact below_drew hb9)).mono ?_; rintro e w1 ⟨rfl, hb1⟩; obtain ⟨ko, kf⟩ := oldCells hb1; have hsz : w.heap.size + 2 ≤ w1.heap.size := (by have h1 := hb1.size; have h0 := hw2.size; first | (simp at h1; omega) | omega); have hc9 : Below (w.heap.size + 2) ((w.alloc (.cells #[.bool b1, .slice A xs.length c] 24)).alloc (.cells #[.bool b2, .slice B ys.length d] 24)) w1 := (by first | exact hz0.trans (hb1.mono (by simp)) | exact (below_drew hz0).trans (hb1.mono (by simp)) | exact hc9.trans (hb1.mono (by have := hc9.size; simp at this ⊢; omega)) | exact (below_drew hc9).trans (hb1.mono (by have := hc9.size; simp at this ⊢; omega))); have hb9 : Below w.heap.size w w1 := (by first | exact hw0.trans (hb1.mono hw0.size) | exact (below_drew hw0).trans (hb1.mono (below_drew hw0).size) | exact hb9.trans (hb1.mono hb9.size) | exact (below_drew hb9).trans (hb1.mono (below_drew hb9).size)); obtain ⟨j1, j2, j3, j4, j5⟩ := boxes2p w _ _ _ _ w1 hc9)
      | (with_reducible refine (hs2 _ (by first | exact hw0 | exact below_drew hw0 | exact hb9 | exact below_drew hb9)).mono ?_; rintro e w1 ⟨rfl, hb1⟩; obtain ⟨ko, kf⟩ := oldCells hb1; have hsz : w.heap.size + 2 ≤ w1.heap.size := (by have h1 := hb1.size; have h0 := hw2.size; first | (simp at h1; omega) | omega); have hc9 : Below (w.heap.size + 2) ((w.alloc (.cells #[.bool b1, .slice A xs.length c] 24)).alloc (.cells #[.bool b2, .slice B ys.length d] 24)) w1 := (by first | exact hz0.trans (hb1.mono (by simp)) | exact (below_drew hz0).trans (hb1.mono (by simp)) | exact hc9.trans (hb1.mono (by have := hc9.size; simp at this ⊢; omega)) | exact (below_drew hc9).trans (hb1.mono (by have := hc9.size; simp at this ⊢; omega))); have hb9 : Below w.heap.size w w1 := (by first | exact hw0.trans (hb1.mono hw0.size) | exact (below_drew hw0).trans (hb1.mono (below_drew hw0).size) | exact hb9.trans (hb1.mono hb9.size) | exact (below_drew hb9).trans (hb1.mono (below_drew hb9).size)); obtain ⟨j1, j2, j3, j4, j5⟩ := boxes2p w _ _ _ _ w1 hc9)))
    all_goals
      go_wp2
      go_ret
      exact ⟨rfl, by first | exact hb9 | exact below_drew hb9⟩

end Go.Proofs.YtegdbcnloodljaaDoor
