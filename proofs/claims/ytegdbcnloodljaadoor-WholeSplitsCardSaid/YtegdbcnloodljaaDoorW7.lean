/- whole.fits, whole.Add. -/
import Derived.Test.YtegdbcnloodljaaDoorW6
import Derived.Test.YtegdbcnloodljaaDoorW2
import Derived.Deep.RegionWith
namespace Go.Proofs.YtegdbcnloodljaaDoor
set_option linter.unusedVariables false
set_option linter.unusedSimpArgs false
open Go.RowKit
set_option maxRecDepth 1000000

/-- no Int: it was refused. -/
def none3 : Value := .tuple #[.agg #[.bool false, .slice none 0 0], .int .i64 3]

set_option maxHeartbeats 1000000 in
theorem wfits_ok (b : Bool) (A : Option Addr) (c : Nat) (zs : List Int) (w : World) (hW : W32 zs) (hr : RdI w .u32 A zs) (hl : zs.length ≤ c) (hc : c ≤ 9223372036854775807) :
    Calls Tryd.prog 48 #[.agg #[.bool b, .slice A zs.length c]] w fun e w' => e = .returned (if BIG ≤ val zs then none3 else .tuple #[.agg #[.bool b, .slice A zs.length c], .int .i64 0]) ∧ Below w.heap.size w w' := by
  have HC := Lib.hid (fun W (hb : Below w.heap.size w W) => wlong_ok b A c zs W (hr.later hb) hl hc)
  rw [show decide (256 < (trimN zs).length) = decide (BIG ≤ val zs) from by rw [Bool.eq_iff_iff]; simp only [decide_eq_true_eq]; exact long_iff hW] at HC
  by_cases hb : BIG ≤ val zs
  · rw [if_pos hb, none3]
    rw [decide_eq_true hb] at HC
    clear hb
    go_enter Tryd.func48, Tryd.ntmps48
    go_wp2_with fail
    go_at_call 61
    refine (HC.out _ (((Below.refl _ w).alloc (Nat.le_refl _) _).alloc (by simp) _)).mono ?_
    rintro e w1 ⟨rfl, hbl⟩
    obtain ⟨ko, kf⟩ := oldCells hbl
    have hsz : w.heap.size + 1 + 1 ≤ w1.heap.size := by have := hbl.size; simpa using this
    have hB : Below w.heap.size w w1 := (((Below.refl _ w).alloc (Nat.le_refl _) _).alloc (by simp) _).trans (hbl.mono (by simp; omega))
    go_wp2
    exact bodyPost_ret (v := none3) (by simp [results, none3, Tryd.results48, go_sem, ko, hsz]) rfl ⟨rfl, (hB.setCell (p := ⟨w.heap.size + 1, 0, none⟩) (by simp) _).setCell (p := ⟨w.heap.size + 1, 1, none⟩) (by simp) _⟩
  · rw [if_neg hb]
    rw [decide_eq_false hb] at HC
    clear hb
    go_enter Tryd.func48, Tryd.ntmps48
    go_wp2_with fail
    go_at_call 61
    refine (HC.out _ (((Below.refl _ w).alloc (Nat.le_refl _) _).alloc (by simp) _)).mono ?_
    rintro e w1 ⟨rfl, hbl⟩
    obtain ⟨ko, kf⟩ := oldCells hbl
    have hsz : w.heap.size + 1 + 1 ≤ w1.heap.size := by have := hbl.size; simpa using this
    have hB : Below w.heap.size w w1 := (((Below.refl _ w).alloc (Nat.le_refl _) _).alloc (by simp) _).trans (hbl.mono (by simp; omega))
    go_wp2
    exact bodyPost_ret (v := .tuple #[.agg #[.bool b, .slice A zs.length c], .int .i64 0]) (by simp [results, Tryd.results48, go_sem, ko, hsz]) rfl ⟨rfl, (hB.setCell (p := ⟨w.heap.size + 1, 0, none⟩) (by simp) _).setCell (p := ⟨w.heap.size + 1, 1, none⟩) (by simp) _⟩
end Go.Proofs.YtegdbcnloodljaaDoor
