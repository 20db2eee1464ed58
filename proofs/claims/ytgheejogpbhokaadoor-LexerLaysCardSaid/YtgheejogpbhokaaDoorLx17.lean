/- The lexer goes through its whole source. -/
import Derived.Test.YtgheejogpbhokaaDoorLx16
namespace Go.Proofs.YtgheejogpbhokaaDoor
set_option linter.unusedVariables false
set_option linter.unusedSimpArgs false
open Go.RowKit
set_option maxRecDepth 1000000

theorem wp_weaken {P : Program} {c : Code} {Q Q' : Exit → Act → World → Prop} {a : Act} {w : World} (h : c.wp P Q a w) (hQ : ∀ e a w, Q e a w → Q' e a w) : c.wp P Q' a w := by
  intro b k cs
  obtain ⟨e, a', w', q, r⟩ := h b k cs
  exact ⟨e, a', w', hQ _ _ _ q, r⟩
theorem jumps_weaken {J J' : Nat → Act → World → Prop} {Q : Exit → Act → World → Prop} (h : ∀ l a w, J l a w → J' l a w) : ∀ e a w, jumps J Q e a w → jumps J' Q e a w := by
  intro e a w hj
  cases e <;> first | exact h _ _ _ hj | exact hj
theorem outs_body {w0 : World} {base X : Nat} {s : ByteArray} {R : LR} : Outs w0 base X s R (bodyPost Tryd.prog Tryd.f18 (AllR w0 base X s R)) :=
  ⟨fun a w hd h => bodyPost_end (results_none rfl _ _ _) hd h, fun ch a w hd h => ⟨hd, h⟩⟩
theorem rest_of {P : Program} {c : Code} {l : Nat} {Q : Exit → Act → World → Prop} {a : Act} {w : World} (h : ∃ rest, findLabel c l = some (.seq .skip rest) ∧ rest.wp P Q a w) : ∃ rest, findLabel c l = some rest ∧ rest.wp P Q a w := by
  obtain ⟨rest, hf, hw⟩ := h
  refine ⟨_, hf, ?_⟩
  apply wp_seq
  apply wp_skip
  exact hw

set_option maxHeartbeats 2000000 in
theorem lxAll_ok {w : World} {base X : Nat} {s : ByteArray} (hL : LxS w base X s 0 0 [0] []) (hz : base ≤ w.heap.size) (hs : s.size ≤ 65536) (hT : ∀ W, Below base w W → Lib.Utf8Tabs 1 2 W) :
    Calls Tryd.prog 18 #[.pointer (some ⟨X, 0, none⟩)] w (AllR w base X s (lexR s.data.toList lexS)) := by
  obtain ⟨R, hR⟩ : ∃ R, lexR s.data.toList lexS = R := ⟨_, rfl⟩
  rw [hR]
  have HR := Lib.hid hR
  clear hR
  go_enter Tryd.func18, Tryd.ntmps18
  refine wp_scope_many (JL w base X s R) (muL s X) ?_ ?_
  · go_wp2
    go_step3
    go_step
    go_step
    refine wp_weaken (fallL (all_0 hs hT outs_body _ rfl _ _ w ?_ (Nat.le_refl _)) rfl) (jumps_weaken fun l a w h => h.1)
    exact ⟨rfl, rfl, rfl, 0, [0], [], ⟨hL, Below.refl _ _, hz, ⟨Nat.zero_le _, by omega, rfl, by simp, by simp⟩⟩, HR.out⟩
  · intro l a w' hJ
    match l, hJ with
    | 0, hJ => exact rest_of (all_0 hs hT outs_body _ rfl _ _ _ hJ (Nat.le_refl _))
    | 1, hJ => exact rest_of (all_1 hs hT outs_body _ rfl _ _ _ hJ (Nat.le_refl _))
    | 2, hJ => exact rest_of (all_2 hs hT outs_body _ rfl _ _ _ hJ (Nat.le_refl _))
    | 3, hJ => exact rest_of (all_3 hs hT outs_body _ rfl _ _ _ hJ (Nat.le_refl _))
    | l + 4, hJ => exact absurd hJ.2.2.2 (fun h => h)
end Go.Proofs.YtgheejogpbhokaaDoor
