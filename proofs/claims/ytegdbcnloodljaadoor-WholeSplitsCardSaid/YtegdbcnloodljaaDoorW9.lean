/- whole.Of. -/
import Derived.Test.YtegdbcnloodljaaDoorW8
namespace Go.Proofs.YtegdbcnloodljaaDoor
set_option linter.unusedVariables false
set_option linter.unusedSimpArgs false
open Go.RowKit
set_option maxRecDepth 1000000

theorem fr_two (W : World) (base : Nat) (hb : base ≤ W.heap.size) (a b : Int) : FrI (W.alloc (.cells #[.int .u32 a, .int .u32 b] 62)) base .u32 (some ⟨W.heap.size, 0, none⟩) [a, b] := by
  have h := World.ownsRow_lit (base := base) (size := 1) (e := 62) W #[.int .u32 a, .int .u32 b] 2 hb (by decide) rfl
  exact FrI.of_own (n := 2) (zs := [a, b]) h

set_option maxHeartbeats 1000000 in
theorem wOf_ok (v : Int) (w : World) (hv : -9223372036854775808 ≤ v ∧ v ≤ 9223372036854775807) :
    Calls Tryd.prog 33 #[.int .i64 v] w fun e w' => ∃ b A n c, e = .returned (.agg #[.bool b, .slice A n c]) ∧ IntAt w' w.heap.size v (.agg #[.bool b, .slice A n c]) ∧ Below w.heap.size w w' := by
  obtain ⟨hv0, hv1⟩ := hv
  by_cases hn : v < 0
  · have e1 : IntKind.u64.wrap v = v + 18446744073709551616 := by rw [IntKind.wrap_u64]; omega
    have e2 : IntKind.u64.wrap (-(v + 18446744073709551616)) = -v := by rw [IntKind.wrap_u64]; omega
    have e3 : IntKind.u32.wrap (-v) = (-v) % 4294967296 := by rw [IntKind.wrap_u32]
    have e4 : IntKind.u32.wrap (-v / 4294967296) = -v / 4294967296 := by rw [IntKind.wrap_u32]; omega
    have hS : valI true [(-v) % 4294967296, -v / 4294967296] = v := by simp only [valI, if_true, val]; omega
    have hW : W32 [(-v) % 4294967296, -v / 4294967296] := W32.cons (by omega) (by omega) (W32.cons (by omega) (by omega) W32.nil)
    have fr := fr_two (w.alloc (.cells #[.bool false, .slice none 0 0] 24)) (w.heap.size + 1) (by simp) ((-v) % 4294967296) (-v / 4294967296)
    rw [show (w.alloc (.cells #[.bool false, .slice none 0 0] 24)).heap.size = w.heap.size + 1 from by simp] at fr
    have hf := form_int true (some ⟨w.heap.size + 1, 0, none⟩) 2 [(-v) % 4294967296, -v / 4294967296] (w.heap.size + 1) _ hW fr (by simp) (by decide) v hS
    clear hS hW fr
    go_enter Tryd.func33, Tryd.ntmps33
    go_wp2_with fail
    go_at_call 46
    refine hf.mono ?_
    rintro e w1 ⟨b', A', n', c', rfl, hv, hb⟩
    obtain ⟨ko, kf⟩ := oldCells hb
    have hsz : w.heap.size + 1 + 1 ≤ w1.heap.size := by have := hb.size; simpa using this
    have hB : Below w.heap.size w w1 := (((Below.refl _ w).alloc (Nat.le_refl _) _).alloc (by simp) _).trans (hb.mono (by simp; omega))
    have k0 : w1.cell? ⟨w.heap.size, 0, none⟩ = some (.bool false) := (hb.cell (p := ⟨w.heap.size, 0, none⟩) (by simp <;> omega)).trans (by simp [go_sem])
    have k1 : w1.cell? ⟨w.heap.size, 1, none⟩ = some (.slice none 0 0) := (hb.cell (p := ⟨w.heap.size, 1, none⟩) (by simp <;> omega)).trans (by simp [go_sem])
    have f0 : w1.frozen? ⟨w.heap.size, 0, none⟩ = false := (hb.frozen (p := ⟨w.heap.size, 0, none⟩) (by simp <;> omega)).trans (by simp [go_sem])
    have f1 : w1.frozen? ⟨w.heap.size, 1, none⟩ = false := (hb.frozen (p := ⟨w.heap.size, 1, none⟩) (by simp <;> omega)).trans (by simp [go_sem])
    clear ko kf
    go_wp2
    exact bodyPost_ret (v := .agg #[.bool b', .slice A' n' c']) (by simp [results, Tryd.results33, go_sem, k0, k1, f0, f1, hsz]) rfl ⟨_, _, _, _, rfl, ((hv.setCell (p := ⟨w.heap.size, 0, none⟩) (by simp) _).setCell (p := ⟨w.heap.size, 1, none⟩) (by simp) _).mono (by omega), (hB.setCell (p := ⟨w.heap.size, 0, none⟩) (by simp) _).setCell (p := ⟨w.heap.size, 1, none⟩) (by simp) _⟩
  · have e1 : IntKind.u64.wrap v = v := by rw [IntKind.wrap_u64]; omega
    have e3 : IntKind.u32.wrap v = v % 4294967296 := by rw [IntKind.wrap_u32]
    have e4 : IntKind.u32.wrap (v / 4294967296) = v / 4294967296 := by rw [IntKind.wrap_u32]; omega
    have hS : valI false [v % 4294967296, v / 4294967296] = v := by simp only [valI, Bool.false_eq_true, if_false, val]; omega
    have hW : W32 [v % 4294967296, v / 4294967296] := W32.cons (by omega) (by omega) (W32.cons (by omega) (by omega) W32.nil)
    have fr := fr_two (w.alloc (.cells #[.bool false, .slice none 0 0] 24)) (w.heap.size + 1) (by simp) (v % 4294967296) (v / 4294967296)
    rw [show (w.alloc (.cells #[.bool false, .slice none 0 0] 24)).heap.size = w.heap.size + 1 from by simp] at fr
    have hf := form_int false (some ⟨w.heap.size + 1, 0, none⟩) 2 [v % 4294967296, v / 4294967296] (w.heap.size + 1) _ hW fr (by simp) (by decide) v hS
    clear hS hW fr
    go_enter Tryd.func33, Tryd.ntmps33
    go_wp2_with fail
    go_at_call 46
    refine hf.mono ?_
    rintro e w1 ⟨b', A', n', c', rfl, hv, hb⟩
    obtain ⟨ko, kf⟩ := oldCells hb
    have hsz : w.heap.size + 1 + 1 ≤ w1.heap.size := by have := hb.size; simpa using this
    have hB : Below w.heap.size w w1 := (((Below.refl _ w).alloc (Nat.le_refl _) _).alloc (by simp) _).trans (hb.mono (by simp; omega))
    have k0 : w1.cell? ⟨w.heap.size, 0, none⟩ = some (.bool false) := (hb.cell (p := ⟨w.heap.size, 0, none⟩) (by simp <;> omega)).trans (by simp [go_sem])
    have k1 : w1.cell? ⟨w.heap.size, 1, none⟩ = some (.slice none 0 0) := (hb.cell (p := ⟨w.heap.size, 1, none⟩) (by simp <;> omega)).trans (by simp [go_sem])
    have f0 : w1.frozen? ⟨w.heap.size, 0, none⟩ = false := (hb.frozen (p := ⟨w.heap.size, 0, none⟩) (by simp <;> omega)).trans (by simp [go_sem])
    have f1 : w1.frozen? ⟨w.heap.size, 1, none⟩ = false := (hb.frozen (p := ⟨w.heap.size, 1, none⟩) (by simp <;> omega)).trans (by simp [go_sem])
    clear ko kf
    go_wp2
    exact bodyPost_ret (v := .agg #[.bool b', .slice A' n' c']) (by simp [results, Tryd.results33, go_sem, k0, k1, f0, f1, hsz]) rfl ⟨_, _, _, _, rfl, ((hv.setCell (p := ⟨w.heap.size, 0, none⟩) (by simp) _).setCell (p := ⟨w.heap.size, 1, none⟩) (by simp) _).mono (by omega), (hB.setCell (p := ⟨w.heap.size, 0, none⟩) (by simp) _).setCell (p := ⟨w.heap.size, 1, none⟩) (by simp) _⟩
end Go.Proofs.YtegdbcnloodljaaDoor
