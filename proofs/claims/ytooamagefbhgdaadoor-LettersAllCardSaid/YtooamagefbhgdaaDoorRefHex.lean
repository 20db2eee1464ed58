/- The reference's hex: so many digits of a number. -/
import Derived.Test.YtooamagefbhgdaaDoorRefGood
import Derived.Deep.OwnRows
namespace Go.Proofs.YtooamagefbhgdaaDoor
open Go.RowKit Go.Shelf
set_option maxRecDepth 1000000

/-- the array behind k digits of d. -/
def hexCells (r d k : Nat) : Array Value := ((List.range d).map fun j => numCell r d k j).toArray

set_option maxHeartbeats 1000000 in
theorem refHex_ok (r d : Nat) (hd : d = 2 ∨ d = 4) (hr : r ≤ 1114111) (w : World) :
    Calls Tryd.prog 40 #[.int .i64 r, .int .i64 d] w fun e w' => e = .returned (.string ⟨(numb r d).toArray⟩) ∧ Below w.heap.size w w' := by
  have hcv : ∀ c, (convert 46 9 (.slice (some ⟨w.heap.size, 0, none⟩) d c)).run Tryd.prog (w.alloc (.cells (hexCells r d d) 5)) = .ok (.string ⟨(numb r d).toArray⟩) (w.alloc (.cells (hexCells r d d) 5)) := by
    intro c
    have h := conv_arr w (numb r d) (hexCells r d d) 5 c ?_
    · rw [numb_len] at h; exact h
    · intro j hj
      rw [numb_len] at hj
      rcases hd with rfl | rfl
      · have : j = 0 ∨ j = 1 := by omega
        rcases this with rfl | rfl <;> simp [hexCells, numCell, numb2]
      · have : j = 0 ∨ j = 1 ∨ j = 2 ∨ j = 3 := by omega
        rcases this with rfl | rfl | rfl | rfl <;> simp [hexCells, numCell, numb4, Nat.div_div_eq_div_mul]
  obtain ⟨X, hX⟩ : ∃ X, (⟨(numb r d).toArray⟩ : ByteArray) = X := ⟨_, rfl⟩
  rw [hX]
  rw [hX] at hcv
  clear hX
  rcases hd with rfl | rfl
  · have hmk : ∀ W : World, (Instr.makeSlice 46 (.int .i64 2) (.int .i64 2)).run Tryd.prog W = .ok (.slice (some ⟨W.heap.size, 0, none⟩) 2 2) (W.alloc (.cells (hexCells r 2 0) 5)) := by
      intro W
      have := run_make_row' (P := Tryd.prog) 46 5 _ 1 Tryd.underlying46 u8_info rfl .i64 .i64 2 (by decide) (by decide) W
      rw [show madeCells #[Value.int .u8 0] 2 = hexCells r 2 0 from Array.ext' (by simp [madeCells, hexCells, numCell, List.range_succ])] at this
      exact this
    rw [show ((2 : Nat) : Int) = 2 from rfl]
    go_enter Tryd.func40, Tryd.ntmps40
    go_wp2
    go_loopw [0, 6] (fun v0 v6 wr => ∃ k : Nat, v0 = .int .i64 (r / 16 ^ k : Nat) ∧ v6 = .int .i64 (1 - k) ∧ k ≤ 2 ∧ wr = w.alloc (.cells (hexCells r 2 k) 5)) (fun _ v6 _ => (intOf v6 + 1).toNat)
    case atStart => exact ⟨0, by simp, rfl, by omega, by rfl⟩
    case round =>
      obtain ⟨k, rfl, rfl, hk, rfl⟩ := hrel
      have hcase : k = 0 ∨ k = 1 ∨ k = 2 := by omega
      obtain ⟨q, hq⟩ : ∃ q, r / 16 ^ k = q := ⟨_, rfl⟩
      obtain ⟨m, hm⟩ : ∃ m, q % 16 = m := ⟨_, rfl⟩
      have hml : m < 16 := by rw [← hm]; exact Nat.mod_lt _ (by decide)
      have hql : q ≤ 1114111 := by rw [← hq]; exact Nat.le_trans (Nat.div_le_self _ _) hr
      have hn : r / 16 ^ (k + 1) = q / 16 := by rw [← hq, Nat.pow_succ, Nat.div_div_eq_div_mul]
      have ha : (q : Int).tmod 16 = (m : Int) := by rw [Int.tmod_eq_emod_of_nonneg (by omega), ← hm]; omega
      have ha2 : (q : Int) % 16 = (m : Int) := by rw [← hm]; omega
      rw [hq]
      have HQ := Lib.hid hq
      have HM := Lib.hid hm
      have HN := Lib.hid hn
      clear hq hm hk hn
      rcases hcase with rfl | rfl | rfl
      · simp only [hexCells, List.range_succ_eq_map, List.range_zero, List.map_cons, List.map_nil]
        clear hcv
        go_wp2
        go_roundw
        case rel => exact ⟨1, by rw [HN.out]; simp, by rfl, by omega, by rw [hexAt m hml, ← HM.out, ← HQ.out]; simp [hexCells, numCell, List.range_succ]⟩
        case measure => simp [intOf]
      · simp only [hexCells, List.range_succ_eq_map, List.range_zero, List.map_cons, List.map_nil]
        clear hcv
        go_wp2
        go_roundw
        case rel => exact ⟨2, by rw [HN.out]; simp, by rfl, by omega, by rw [hexAt m hml, ← HM.out, ← HQ.out]; simp [hexCells, numCell, List.range_succ]⟩
        case measure => simp [intOf]
      · go_wp2
        go_ret
        exact ⟨rfl, Below.alloc (Below.refl _ _) (Nat.le_refl _) _⟩
  · have hmk : ∀ W : World, (Instr.makeSlice 46 (.int .i64 4) (.int .i64 4)).run Tryd.prog W = .ok (.slice (some ⟨W.heap.size, 0, none⟩) 4 4) (W.alloc (.cells (hexCells r 4 0) 5)) := by
      intro W
      have := run_make_row' (P := Tryd.prog) 46 5 _ 1 Tryd.underlying46 u8_info rfl .i64 .i64 4 (by decide) (by decide) W
      rw [show madeCells #[Value.int .u8 0] 4 = hexCells r 4 0 from Array.ext' (by simp [madeCells, hexCells, numCell, List.range_succ])] at this
      exact this
    rw [show ((4 : Nat) : Int) = 4 from rfl]
    go_enter Tryd.func40, Tryd.ntmps40
    go_wp2
    go_loopw [0, 6] (fun v0 v6 wr => ∃ k : Nat, v0 = .int .i64 (r / 16 ^ k : Nat) ∧ v6 = .int .i64 (3 - k) ∧ k ≤ 4 ∧ wr = w.alloc (.cells (hexCells r 4 k) 5)) (fun _ v6 _ => (intOf v6 + 1).toNat)
    case atStart => exact ⟨0, by simp, rfl, by omega, by rfl⟩
    case round =>
      obtain ⟨k, rfl, rfl, hk, rfl⟩ := hrel
      have hcase : k = 0 ∨ k = 1 ∨ k = 2 ∨ k = 3 ∨ k = 4 := by omega
      obtain ⟨q, hq⟩ : ∃ q, r / 16 ^ k = q := ⟨_, rfl⟩
      obtain ⟨m, hm⟩ : ∃ m, q % 16 = m := ⟨_, rfl⟩
      have hml : m < 16 := by rw [← hm]; exact Nat.mod_lt _ (by decide)
      have hql : q ≤ 1114111 := by rw [← hq]; exact Nat.le_trans (Nat.div_le_self _ _) hr
      have hn : r / 16 ^ (k + 1) = q / 16 := by rw [← hq, Nat.pow_succ, Nat.div_div_eq_div_mul]
      have ha : (q : Int).tmod 16 = (m : Int) := by rw [Int.tmod_eq_emod_of_nonneg (by omega), ← hm]; omega
      have ha2 : (q : Int) % 16 = (m : Int) := by rw [← hm]; omega
      rw [hq]
      have HQ := Lib.hid hq
      have HM := Lib.hid hm
      have HN := Lib.hid hn
      clear hq hm hk hn
      rcases hcase with rfl | rfl | rfl | rfl | rfl
      · simp only [hexCells, List.range_succ_eq_map, List.range_zero, List.map_cons, List.map_nil]
        clear hcv
        go_wp2
        go_roundw
        case rel => exact ⟨1, by rw [HN.out]; simp, by rfl, by omega, by rw [hexAt m hml, ← HM.out, ← HQ.out]; simp [hexCells, numCell, List.range_succ]⟩
        case measure => simp [intOf]
      · simp only [hexCells, List.range_succ_eq_map, List.range_zero, List.map_cons, List.map_nil]
        clear hcv
        go_wp2
        go_roundw
        case rel => exact ⟨2, by rw [HN.out]; simp, by rfl, by omega, by rw [hexAt m hml, ← HM.out, ← HQ.out]; simp [hexCells, numCell, List.range_succ]⟩
        case measure => simp [intOf]
      · simp only [hexCells, List.range_succ_eq_map, List.range_zero, List.map_cons, List.map_nil]
        clear hcv
        go_wp2
        go_roundw
        case rel => exact ⟨3, by rw [HN.out]; simp, by rfl, by omega, by rw [hexAt m hml, ← HM.out, ← HQ.out]; simp [hexCells, numCell, List.range_succ]⟩
        case measure => simp [intOf]
      · simp only [hexCells, List.range_succ_eq_map, List.range_zero, List.map_cons, List.map_nil]
        clear hcv
        go_wp2
        go_roundw
        case rel => exact ⟨4, by rw [HN.out]; simp, by rfl, by omega, by rw [hexAt m hml, ← HM.out, ← HQ.out]; simp [hexCells, numCell, List.range_succ]⟩
        case measure => simp [intOf]
      · go_wp2
        go_ret
        exact ⟨rfl, Below.alloc (Below.refl _ _) (Nat.le_refl _) _⟩
end Go.Proofs.YtooamagefbhgdaaDoor
