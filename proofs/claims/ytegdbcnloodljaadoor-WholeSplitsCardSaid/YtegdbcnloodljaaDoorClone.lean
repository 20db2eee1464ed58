/- slices.Clone of words. -/
import Derived.Test.YtegdbcnloodljaaDoorW8
import Derived.Test.YtegdbcnloodljaaDoorShelf
namespace Go.Proofs.YtegdbcnloodljaaDoor
set_option linter.unusedVariables false
set_option linter.unusedSimpArgs false
open Go.RowKit
set_option maxRecDepth 1000000

set_option maxHeartbeats 1000000 in
theorem clone_zero (A : Option Addr) (c : Nat) (w : World) (hc : c ≤ 9223372036854775807) :
    Calls Tryd.prog 53 #[.slice A 0 c] w fun e w' => (∃ A' c', e = .returned (.slice A' 0 c') ∧ c' ≤ 9223372036854775807) ∧ Below w.heap.size w w' := by
  cases A with
  | none =>
    refine (Tryd.slices_Clone_nil 0 c w).mono ?_
    rintro e w' ⟨rfl, rfl⟩
    exact ⟨⟨none, 0, rfl, by omega⟩, Below.refl _ _⟩
  | some a =>
    have hnil : ∀ W : World, (binOp BinOp.eql 22 (.slice (some a) 0 c) (.slice none 0 0)).run Tryd.prog W = .ok (.bool false) W := fun W => by first | rfl | simp [binOp, go_sem, Tryd.underlying22]
    go_enter Tryd.func53, Tryd.ntmps53
    go_wp2
    go_ret
    exact ⟨⟨_, _, rfl, by omega⟩, (Below.refl _ w).alloc (Nat.le_refl _) _⟩

theorem clone_ok (A : Option Addr) (c : Nat) (zs : List Int) (w : World) (hr : RdI w .u32 A zs) (hm : zs.length ≤ 1000000) (hc : c ≤ 9223372036854775807) :
    Calls Tryd.prog 53 #[.slice A zs.length c] w (RetRow w .u32 zs) := by
  by_cases h0 : zs = []
  · subst h0
    refine (clone_zero A c w hc).mono ?_
    rintro e w' ⟨⟨A', c', rfl, hc'⟩, hb⟩
    exact ⟨A', c', rfl, Nat.zero_le _, hc', fun i hi => by simp at hi, hb⟩
  · obtain ⟨i0, hi0, hz0, hz1, hz2⟩ := info_parts u32_info
    obtain ⟨b, off, z, hA, _, _⟩ := hr 0 (List.length_pos_iff.2 h0)
    subst hA
    refine (Tryd.slices_Clone i0 _ 1 4 hi0 hz0 hz1 hz2 rfl (by decide) Tryd.sizeOf62 b off zs.length c (zs.map (Value.int .u32)) w (by simp) (by unfold maxLen; omega) (by omega) ?_ (by simp [Value.oneCell'])).mono ?_
    · intro j u hu
      rw [List.getElem?_map] at hu
      by_cases hj : j < zs.length
      · obtain ⟨b2, o2, z2, hA2, hz2, hcell⟩ := hr j hj
        injection hA2 with hA2
        injection hA2 with e1 e2 _
        subst e1 e2
        rw [hz2] at hu
        simp only [Option.map_some, Option.some.injEq] at hu
        rw [← hu]; exact hcell
      · rw [List.getElem?_eq_none (by omega)] at hu; simp at hu
    · rintro e w' ⟨v', rfl, hown, _, hb⟩
      obtain ⟨A', c', rfl, h1, h2, _⟩ := own_form hown
      exact ⟨A', c', rfl, h1, h2, FrI.of_own hown, hb⟩

/-- the blocks of an Int and of one that is to be answered, in a later world. -/
theorem boxes2 (w : World) (a0 a1 : Value) (W : World) (h : Below (w.heap.size + 2) ((w.alloc (.cells #[a0, a1] 24)).alloc (.cells #[.bool false, .slice none 0 0] 24)) W) :
    W.cell? ⟨w.heap.size, 0, none⟩ = some a0 ∧ W.cell? ⟨w.heap.size, 1, none⟩ = some a1 ∧
    W.cell? ⟨w.heap.size + 1, 0, none⟩ = some (.bool false) ∧ W.cell? ⟨w.heap.size + 1, 1, none⟩ = some (.slice none 0 0) ∧ W.frozen? ⟨w.heap.size + 1, 0, none⟩ = false ∧ W.frozen? ⟨w.heap.size + 1, 1, none⟩ = false ∧ w.heap.size + 2 ≤ W.heap.size := by
  refine ⟨(h.cell (p := ⟨w.heap.size, 0, none⟩) (by simp)).trans (by simp [go_sem]), (h.cell (p := ⟨w.heap.size, 1, none⟩) (by simp)).trans (by simp [go_sem]),
    (h.cell (p := ⟨w.heap.size + 1, 0, none⟩) (by simp)).trans (by simp [go_sem]), (h.cell (p := ⟨w.heap.size + 1, 1, none⟩) (by simp)).trans (by simp [go_sem]), (h.frozen (p := ⟨w.heap.size + 1, 0, none⟩) (by simp)).trans (by simp [go_sem]), (h.frozen (p := ⟨w.heap.size + 1, 1, none⟩) (by simp)).trans (by simp [go_sem]), ?_⟩
  have := h.size
  simp at this
  omega

set_option maxHeartbeats 2000000 in
theorem copied_ok (neg : Bool) (A : Option Addr) (c : Nat) (zs : List Int) (w : World) (hW : W32 zs) (hr : RdI w .u32 A zs) (hl : zs.length ≤ c) (hc : c ≤ 9223372036854775807) (hm : zs.length ≤ 1000000) :
    Calls Tryd.prog 45 #[.agg #[.bool neg, .slice A zs.length c]] w fun e w' => ∃ b' A' n' c', e = .returned (.agg #[.bool b', .slice A' n' c']) ∧ IntAt w' w.heap.size (valI neg zs) (.agg #[.bool b', .slice A' n' c']) ∧ Below w.heap.size w w' := by
  have lX := trimN_le zs
  have e1 : valI neg zs = valI neg (trimN zs) := by rw [valI, valI, val_trimN]
  have hX2 := trimN_w32 hW
  have rX : RdI w .u32 A (trimN zs) := hr.take _
  have hT := fun W (hb : Below w.heap.size w W) => trim_any A c zs W (hr.later hb) hl hc
  rw [e1]
  generalize trimN zs = ps at *
  clear e1
  have hw0 : Below w.heap.size w ((w.alloc (.cells #[.bool neg, .slice A zs.length c] 24)).alloc (.cells #[.bool false, .slice none 0 0] 24)) := ((Below.refl _ _).alloc (Nat.le_refl _) _).alloc (by simp) _
  have hz0 : Below (w.heap.size + 2) ((w.alloc (.cells #[.bool neg, .slice A zs.length c] 24)).alloc (.cells #[.bool false, .slice none 0 0] 24)) ((w.alloc (.cells #[.bool neg, .slice A zs.length c] 24)).alloc (.cells #[.bool false, .slice none 0 0] 24)) := Below.refl _ _
  go_enter Tryd.func45, Tryd.ntmps45
  go_wp2_with fail
  go_region_with (first
    | (go_at_call 54; refine (hT _ (by first | exact hw0 | exact below_drew hw0)).mono ?_; rintro e w' ⟨rfl, rfl⟩)
    | (go_at_call 53; refine (clone_ok A c ps _ (rX.later (by first | exact hw0 | exact below_drew hw0)) (by omega) hc).mono ?_; rintro e w3 ⟨A3, c3, rfl, l3, m3, f3, b3⟩; have hz3 : Below (w.heap.size + 2) _ w3 := (by first | exact hz0.trans (b3.mono (by simp)) | exact (below_drew hz0).trans (b3.mono (by simp))); have hB3 : Below w.heap.size w w3 := (by first | exact hw0.trans (b3.mono hw0.size) | exact (below_drew hw0).trans (b3.mono hw0.size)); have f3 := f3.mono (show w.heap.size + 2 ≤ _ by simp); obtain ⟨j1, j2, j3, j4, j5, j6, j7⟩ := boxes2 w _ _ w3 hz3)
    | (go_at_call 46; refine (form_int neg A3 c3 ps (w.heap.size + 2) _ hX2 (f3.later (by first | exact Below.refl _ _ | exact below_drew (Below.refl _ _))) l3 m3 _ rfl).mono ?_; rintro e w4 ⟨b', A', n', c', rfl, hv, b4⟩; have hz4 : Below (w.heap.size + 2) _ w4 := (by first | exact hz3.trans (b4.mono j7) | exact (below_drew hz3).trans (b4.mono j7)); have hB4 : Below w.heap.size w w4 := (by first | exact hB3.trans (b4.mono hB3.size) | exact (below_drew hB3).trans (b4.mono hB3.size)); obtain ⟨g3, g4, g5, g6, g7, g8, g9⟩ := boxes2 w _ _ w4 hz4))
  all_goals
    go_wp2
    exact bodyPost_ret (v := .agg #[.bool b', .slice A' n' c']) (by simp [results, Tryd.results45, go_sem, g5, g6, g7, g8, g9]) rfl ⟨_, _, _, _, rfl, ((hv.setCell (p := ⟨w.heap.size + 1, 0, none⟩) (by simp <;> omega) _).setCell (p := ⟨w.heap.size + 1, 1, none⟩) (by simp <;> omega) _).mono (by omega), (hB4.setCell (p := ⟨w.heap.size + 1, 0, none⟩) (by simp <;> omega) _).setCell (p := ⟨w.heap.size + 1, 1, none⟩) (by simp <;> omega) _⟩
end Go.Proofs.YtegdbcnloodljaaDoor
