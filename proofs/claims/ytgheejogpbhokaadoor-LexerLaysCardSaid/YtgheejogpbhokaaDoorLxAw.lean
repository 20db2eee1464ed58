/- The law's awake: what the document fixes. -/
import Derived.Test.YtgheejogpbhokaaDoorLx20
import Derived.Lib.SmallJoins
namespace Go.Proofs.YtgheejogpbhokaaDoor
set_option linter.unusedVariables false
set_option linter.unusedSimpArgs false
open Go.RowKit
set_option maxRecDepth 1000000

/-- a row of the call's own that is not empty: its block and its cells. -/
theorem own_some {w : World} {base size n : Nat} {e : TypeId} {A : Option Addr} {C : Nat} {xs : List Value} (h : w.ownsRow base e size (.slice A n C) n xs) (hn : 0 < n) : ∃ g, A = some ⟨g, 0, none⟩ ∧ n ≤ C ∧ C ≤ maxLen ∧ base ≤ g ∧ g < w.heap.size ∧ ∀ i v, xs[i]? = some v → w.cell? ⟨g, i, none⟩ = some v := by
  rcases h.2 with ⟨hv, h0⟩ | ⟨g, cap, cur, hv, hg, hh, h1, h2, hs, ht⟩
  · omega
  · injection hv with e1 e2 e3
    subst e1 e3
    refine ⟨g, rfl, h1, h2, hg, ?_, fun i v hi => ?_⟩
    · exact (Array.getElem?_eq_some_iff.1 hh).1
    · have := h.cells (g := g) rfl i v hi
      rw [Addr.add_lit, Nat.zero_add] at this
      exact this
def awL : List Tk := [⟨1, [97], 0⟩, ⟨5, [61], 1⟩, ⟨3, [49], 2⟩, ⟨6, [], 3⟩, ⟨9, [], 3⟩]
theorem aw_lex : lexR [97, 61, 49] lexS = .ok awL := by rfl
set_option maxHeartbeats 2000000 in
theorem lxAwake_ok (w : World) (hT : Lib.Utf8Tabs 1 2 w) : Calls Tryd.prog 9 #[] w fun e w' => e = .returned (.bool true) ∧ Below w.heap.size w w' := by
  have kc := Lib.run_convert_bytes_const (P := Tryd.prog) w 22 5 #[.int .u8 97, .int .u8 61, .int .u8 49] 3 3 Tryd.underlying22 Tryd.underlying5
  obtain ⟨W1, hW1⟩ : ∃ W1, w.alloc (.cells #[.int .u8 97, .int .u8 61, .int .u8 49] 5 (3, 4)) = W1 := ⟨_, rfl⟩
  have hb1 : Below w.heap.size w W1 := by rw [← hW1]; exact (Below.refl _ _).alloc (Nat.le_refl _) _
  have hB : BsAt W1 (some ⟨w.heap.size, 0, none⟩) ⟨#[97, 61, 49]⟩ := by
    rw [← hW1]
    intro i hi
    match i, hi with
    | 0, _ => exact ⟨w.heap.size, 0, 97, rfl, rfl, World.cell?_alloc_mark w _ _ _ _⟩
    | 1, _ => exact ⟨w.heap.size, 0, 61, rfl, rfl, World.cell?_alloc_mark w _ _ _ _⟩
    | 2, _ => exact ⟨w.heap.size, 0, 49, rfl, rfl, World.cell?_alloc_mark w _ _ _ _⟩
  have hTk := lxTokens_ok 3 W1 hB (by decide) (by decide) (by decide) (Utf8Tabs_below hT hb1)
  rw [show lexR (⟨#[97, 61, 49]⟩ : ByteArray).data.toList lexS = .ok awL from aw_lex] at hTk
  unfold TokensR at hTk
  dsimp only at hTk
  have hWd := fun W => lxWord_ok ⟨#[101, 108, 105, 102]⟩ W
  rw [show wordB (⟨#[101, 108, 105, 102]⟩ : ByteArray).data.toList = true from rfl] at hWd
  have hs : (⟨#[97, 61, 49]⟩ : ByteArray).size = 3 := rfl
  rw [hs] at hTk
  have hkc : (Array.size #[Value.int .u8 97, .int .u8 61, .int .u8 49], Array.size #[Value.int .u8 97, .int .u8 61, .int .u8 49] + 1) = (3, 4) := rfl
  rw [hkc, hW1] at kc
  clear hB hs hkc
  go_enter Tryd.func9, Tryd.ntmps9
  go_wp2_with fail
  go_at_call 10
  refine hTk.mono ?_
  rintro e w2 ⟨A, C, rfl, ho, hb⟩
  have hb2 := hb1.trans (hb.mono hb1.size)
  rw [show awL.length = 5 from rfl] at ho ⊢
  obtain ⟨g, rfl, l1, l2, l3, l4, hc⟩ := own_some ho (by decide)
  have c0 : w2.cell? ⟨g, 0, none⟩ = some (.int .i64 1) := hc 0 _ rfl
  have c1 : w2.cell? ⟨g, 1, none⟩ = some (.string ⟨#[97]⟩) := hc 1 _ rfl
  have c2 : w2.cell? ⟨g, 2, none⟩ = some (.int .i64 0) := hc 2 _ rfl
  have c6 : w2.cell? ⟨g, 6, none⟩ = some (.int .i64 3) := hc 6 _ rfl
  have c7 : w2.cell? ⟨g, 7, none⟩ = some (.string ⟨#[49]⟩) := hc 7 _ rfl
  have c8 : w2.cell? ⟨g, 8, none⟩ = some (.int .i64 2) := hc 8 _ rfl
  clear hc ho hTk kc hW1
  go_wp2_with (go_at_call 14; refine (hWd _).mono ?_; rintro e w' ⟨rfl, rfl⟩)
  go_ret
  exact ⟨rfl, hb2.alloc hb2.size _⟩
end Go.Proofs.YtgheejogpbhokaaDoor
