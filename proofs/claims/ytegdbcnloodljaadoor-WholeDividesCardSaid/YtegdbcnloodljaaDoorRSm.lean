/- The reference's Small and Of (chapter 1), told by the number. -/
import Derived.Test.YtegdbcnloodljaaDoorSm
import Derived.Test.YtegdbcnloodljaaDoorR6
import Derived.Test.YtegdbcnloodljaaDoorW9
namespace Go.Proofs.YtegdbcnloodljaaDoor
set_option linter.unusedVariables false
set_option linter.unusedSimpArgs false
open Go.RowKit
set_option maxRecDepth 1000000

theorem vals_of : ∀ (zs : List Int), W32 zs → ∃ us : List U32, vals us = zs
  | [], _ => ⟨[], rfl⟩
  | z :: zs, h => by
    obtain ⟨us, hu⟩ := vals_of zs h.tail
    exact ⟨⟨z, h.head⟩ :: us, by subst hu; rfl⟩
theorem valI_trim (neg : Bool) (zs : List Int) : valI neg zs = valI (negN neg zs) (trimN zs) := by
  rw [valI, valI, val_trimN]
  cases neg with
  | false => rw [negN, Bool.false_and]
  | true =>
    rw [negN, Bool.true_and]
    by_cases h : 0 < (trimN zs).length
    · rw [decide_eq_true h]
    · rw [decide_eq_false h]
      have h0 : trimN zs = [] := List.eq_nil_of_length_eq_zero (by omega)
      have h1 := val_trimN zs
      rw [h0] at h1
      simp [val] at h1
      simp; omega
theorem small_form (neg : Bool) (us : List U32) (hW : W32 (vals us)) : smallF (negN neg (vals us)) (vals (trimU us)) = (smV (valI neg (vals us)), smB (valI neg (vals us))) := by
  rw [vals_trimU, valI_trim]
  have h1 := trimN_w32 hW
  have h2 := trimN_nt (vals us)
  have h0 := val_nn h1
  generalize negN neg (vals us) = b
  generalize trimN (vals us) = ts at *
  have hn := nt_len h1 h2 2
  have e2 : (4294967296 : Int) ^ 2 = 18446744073709551616 := by decide
  rw [e2] at hn
  unfold smallF
  by_cases hl : 2 < ts.length
  · rw [if_pos hl]
    have := hn.1 hl
    obtain ⟨s1, s2⟩ := sm_no (X := valI b ts) (by cases b <;> simp [valI] <;> omega)
    rw [s1, s2]
  · rw [if_neg hl]
    have hlt : ¬ (18446744073709551616 ≤ val ts) := fun h => hl (hn.2 h)
    cases b with
    | false =>
      have e : valI false ts = val ts := rfl
      rw [e]
      by_cases h : 9223372036854775808 ≤ val ts
      · obtain ⟨s1, s2⟩ := sm_no (X := val ts) (by omega)
        simp only [if_pos h, s1, s2]
      · obtain ⟨s1, s2⟩ := sm_yes (X := val ts) (by omega)
        simp only [if_neg h, s1, s2]
    | true =>
      have e : valI true ts = -(val ts) := rfl
      rw [e]
      by_cases h : 9223372036854775808 < val ts
      · obtain ⟨s1, s2⟩ := sm_no (X := -(val ts)) (by omega)
        simp only [if_pos h, s1, s2]
      · obtain ⟨s1, s2⟩ := sm_yes (X := -(val ts)) (by omega)
        simp only [if_neg h, s1, s2]

theorem refSmall_ok (neg : Bool) (A : Option Addr) (c : Nat) (zs : List Int) (w : World) (hW : W32 zs) (hr : RdI w .u32 A zs) (hl : zs.length ≤ c) (hc : c ≤ 9223372036854775807) (hn : zs.length ≤ 1000000) :
    Calls Tryd.prog 35 #[.agg #[.bool neg, .slice A zs.length c]] w fun e w' => e = .returned (.tuple #[.int .i64 (smV (valI neg zs)), .bool (smB (valI neg zs))]) ∧ Below w.heap.size w w' := by
  obtain ⟨us, rfl⟩ := vals_of zs hW
  rw [vals_length] at hl hn ⊢
  exact refSmall_any neg A c us w hr hl hc hn _ _ (Lib.hid (small_form neg us hW))

set_option maxHeartbeats 1000000 in
theorem refOf_ok (v : Int) (w : World) (hv : -9223372036854775808 ≤ v ∧ v ≤ 9223372036854775807) :
    Calls Tryd.prog 38 #[.int .i64 v] w (RetI w v) := by
  obtain ⟨hv0, hv1⟩ := hv
  by_cases hn : v < 0
  · have e1 : IntKind.u64.wrap v = v + 18446744073709551616 := by rw [IntKind.wrap_u64]; omega
    have e2 : IntKind.u64.wrap (-(v + 18446744073709551616)) = -v := by rw [IntKind.wrap_u64]; omega
    have e3 : IntKind.u32.wrap (-v) = (-v) % 4294967296 := by rw [IntKind.wrap_u32]
    have e4 : IntKind.u32.wrap (-v / 4294967296) = -v / 4294967296 := by rw [IntKind.wrap_u32]; omega
    have hS : valI true [(-v) % 4294967296, -v / 4294967296] = v := by simp only [valI, if_true, val]; omega
    have hW : W32 [(-v) % 4294967296, -v / 4294967296] := W32.cons (by omega) (by omega) (W32.cons (by omega) (by omega) W32.nil)
    have fr := fr_two (w.alloc (.cells #[.bool false, .slice none 0 0] 24)) (w.heap.size + 1) (by simp) ((-v) % 4294967296) (-v / 4294967296)
    rw [show (w.alloc (.cells #[.bool false, .slice none 0 0] 24)).heap.size = w.heap.size + 1 from by simp] at fr
    have hf := made_int true (some ⟨w.heap.size + 1, 0, none⟩) 2 [(-v) % 4294967296, -v / 4294967296] _ hW fr.rd (by simp) (by decide) (by simp) v hS
    clear hS hW fr
    go_enter Tryd.func38, Tryd.ntmps38
    go_wp2_with fail
    go_at_call 52
    refine hf.mono ?_
    rintro e w1 ⟨b', A', n', c', rfl, hv, hb⟩
    have hv := hv.mono (show w.heap.size + 1 ≤ _ by simp)
    obtain ⟨ko, kf⟩ := oldCells hb
    have hsz : w.heap.size + 1 + 1 ≤ w1.heap.size := by have := hb.size; simpa using this
    have hB : Below w.heap.size w w1 := (((Below.refl _ w).alloc (Nat.le_refl _) _).alloc (by simp) _).trans (hb.mono (by simp; omega))
    have k0 : w1.cell? ⟨w.heap.size, 0, none⟩ = some (.bool false) := (hb.cell (p := ⟨w.heap.size, 0, none⟩) (by simp <;> omega)).trans (by simp [go_sem])
    have k1 : w1.cell? ⟨w.heap.size, 1, none⟩ = some (.slice none 0 0) := (hb.cell (p := ⟨w.heap.size, 1, none⟩) (by simp <;> omega)).trans (by simp [go_sem])
    have f0 : w1.frozen? ⟨w.heap.size, 0, none⟩ = false := (hb.frozen (p := ⟨w.heap.size, 0, none⟩) (by simp <;> omega)).trans (by simp [go_sem])
    have f1 : w1.frozen? ⟨w.heap.size, 1, none⟩ = false := (hb.frozen (p := ⟨w.heap.size, 1, none⟩) (by simp <;> omega)).trans (by simp [go_sem])
    clear ko kf
    go_wp2
    exact bodyPost_ret (v := .agg #[.bool b', .slice A' n' c']) (by simp [results, Tryd.results38, go_sem, k0, k1, f0, f1, hsz]) rfl ⟨_, _, _, _, rfl, ((hv.setCell (p := ⟨w.heap.size, 0, none⟩) (by simp) _).setCell (p := ⟨w.heap.size, 1, none⟩) (by simp) _).mono (by omega), (hB.setCell (p := ⟨w.heap.size, 0, none⟩) (by simp) _).setCell (p := ⟨w.heap.size, 1, none⟩) (by simp) _⟩
  · have e1 : IntKind.u64.wrap v = v := by rw [IntKind.wrap_u64]; omega
    have e3 : IntKind.u32.wrap v = v % 4294967296 := by rw [IntKind.wrap_u32]
    have e4 : IntKind.u32.wrap (v / 4294967296) = v / 4294967296 := by rw [IntKind.wrap_u32]; omega
    have hS : valI false [v % 4294967296, v / 4294967296] = v := by simp only [valI, Bool.false_eq_true, if_false, val]; omega
    have hW : W32 [v % 4294967296, v / 4294967296] := W32.cons (by omega) (by omega) (W32.cons (by omega) (by omega) W32.nil)
    have fr := fr_two (w.alloc (.cells #[.bool false, .slice none 0 0] 24)) (w.heap.size + 1) (by simp) (v % 4294967296) (v / 4294967296)
    rw [show (w.alloc (.cells #[.bool false, .slice none 0 0] 24)).heap.size = w.heap.size + 1 from by simp] at fr
    have hf := made_int false (some ⟨w.heap.size + 1, 0, none⟩) 2 [v % 4294967296, v / 4294967296] _ hW fr.rd (by simp) (by decide) (by simp) v hS
    clear hS hW fr
    go_enter Tryd.func38, Tryd.ntmps38
    go_wp2_with fail
    go_at_call 52
    refine hf.mono ?_
    rintro e w1 ⟨b', A', n', c', rfl, hv, hb⟩
    have hv := hv.mono (show w.heap.size + 1 ≤ _ by simp)
    obtain ⟨ko, kf⟩ := oldCells hb
    have hsz : w.heap.size + 1 + 1 ≤ w1.heap.size := by have := hb.size; simpa using this
    have hB : Below w.heap.size w w1 := (((Below.refl _ w).alloc (Nat.le_refl _) _).alloc (by simp) _).trans (hb.mono (by simp; omega))
    have k0 : w1.cell? ⟨w.heap.size, 0, none⟩ = some (.bool false) := (hb.cell (p := ⟨w.heap.size, 0, none⟩) (by simp <;> omega)).trans (by simp [go_sem])
    have k1 : w1.cell? ⟨w.heap.size, 1, none⟩ = some (.slice none 0 0) := (hb.cell (p := ⟨w.heap.size, 1, none⟩) (by simp <;> omega)).trans (by simp [go_sem])
    have f0 : w1.frozen? ⟨w.heap.size, 0, none⟩ = false := (hb.frozen (p := ⟨w.heap.size, 0, none⟩) (by simp <;> omega)).trans (by simp [go_sem])
    have f1 : w1.frozen? ⟨w.heap.size, 1, none⟩ = false := (hb.frozen (p := ⟨w.heap.size, 1, none⟩) (by simp <;> omega)).trans (by simp [go_sem])
    clear ko kf
    go_wp2
    exact bodyPost_ret (v := .agg #[.bool b', .slice A' n' c']) (by simp [results, Tryd.results38, go_sem, k0, k1, f0, f1, hsz]) rfl ⟨_, _, _, _, rfl, ((hv.setCell (p := ⟨w.heap.size, 0, none⟩) (by simp) _).setCell (p := ⟨w.heap.size, 1, none⟩) (by simp) _).mono (by omega), (hB.setCell (p := ⟨w.heap.size, 0, none⟩) (by simp) _).setCell (p := ⟨w.heap.size, 1, none⟩) (by simp) _⟩
end Go.Proofs.YtegdbcnloodljaaDoor
