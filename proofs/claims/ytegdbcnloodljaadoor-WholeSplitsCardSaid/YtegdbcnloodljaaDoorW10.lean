/- math/bits.Div32; the digits of a piece. -/
import Derived.Test.YtegdbcnloodljaaDoorW9
import Derived.Test.YtegdbcnloodljaaDoorBits
import Derived.BigQuiet
import Derived.Deep.QuietTactic
namespace Go.Proofs.YtegdbcnloodljaaDoor
set_option linter.unusedVariables false
set_option linter.unusedSimpArgs false
open Go.RowKit
set_option maxRecDepth 1000000

set_option maxHeartbeats 1000000 in
theorem div32_ok (hi lo y : Int) (w : World) (h0 : 0 ≤ hi) (h1 : hi < y) (hy : y ≤ 4294967295) (hl0 : 0 ≤ lo) (hl1 : lo ≤ 4294967295) :
    Calls Tryd.prog 55 #[.int .u32 hi, .int .u32 lo, .int .u32 y] w fun e w' => e = .returned (.tuple #[.int .u32 ((hi * 4294967296 + lo) / y), .int .u32 ((hi * 4294967296 + lo) % y)]) ∧ Below w.heap.size w w' := by
  have e1 : IntKind.u64.wrap (hi * 4294967296) = hi * 4294967296 := by rw [IntKind.wrap_u64]; omega
  have e2 : bits BinOp.or IntKind.u64 (hi * 4294967296) lo = hi * 4294967296 + lo := by
    refine or_join 32 _ _ (by omega) (by omega) (by omega) (by omega) ?_ ?_
    · obtain ⟨n, hn⟩ := Int.eq_ofNat_of_zero_le h0
      rw [hn]
      have : ((n : Int) * 4294967296).toNat = n * 4294967296 := by omega
      rw [this]; exact Nat.mul_mod_left n (2 ^ 32)
    · have : (2 : Nat) ^ 32 = 4294967296 := by rfl
      omega
  obtain ⟨Z, hZ⟩ : ∃ Z, hi * 4294967296 + lo = Z := ⟨_, rfl⟩
  rw [hZ] at e2 ⊢
  have hZ0 : 0 ≤ Z := by omega
  have hZ1 : Z < y * 4294967296 := by omega
  have hZ2 : Z < 18446744073709551616 := by omega
  have hy0 : 0 < y := by omega
  have d1 : Z / y < 4294967296 := Int.ediv_lt_of_lt_mul hy0 (by rw [Int.mul_comm]; exact hZ1)
  have d0 : 0 ≤ Z / y := Int.ediv_nonneg hZ0 (by omega)
  have m0 := Int.emod_nonneg Z (show y ≠ 0 by omega)
  have m1 := Int.emod_lt_of_pos Z hy0
  have t1 : Z.tdiv y = Z / y := Int.tdiv_eq_ediv_of_nonneg hZ0
  have t2 : Z.tmod y = Z % y := Int.tmod_eq_emod_of_nonneg hZ0
  obtain ⟨q, hq⟩ : ∃ q, Z / y = q := ⟨_, rfl⟩
  obtain ⟨r, hr⟩ : ∃ r, Z % y = r := ⟨_, rfl⟩
  rw [hq] at d1 d0 t1 ⊢
  rw [hr] at m0 m1 t2 ⊢
  have w1 : IntKind.u32.wrap q = q := by rw [IntKind.wrap_u32]; omega
  have w2 : IntKind.u32.wrap r = r := by rw [IntKind.wrap_u32]; omega
  have x0 : (y != 0) = true := by simp; omega
  have x1 : (y == 0) = false := by simp; omega
  clear hZ
  go_enter Tryd.func55, Tryd.ntmps55
  go_wp2
  go_quiet (fail)
  go_wp2
  go_ret2
  exact ⟨rfl, ⟨rfl, rfl, rfl, Nat.le_refl _, fun _ _ => rfl⟩⟩

/-- a digit's sign. -/
def dsign (n : Nat) (k : Nat) : Int := 48 + ((n / 10 ^ k % 10 : Nat) : Int)
/-- the array behind k digits. -/
def digCell (n k j : Nat) : Value := if 8 - j < k then .int .u8 (dsign n (8 - j)) else .int .u8 0
def digCells (n k : Nat) : Array Value := #[digCell n k 0, digCell n k 1, digCell n k 2, digCell n k 3, digCell n k 4, digCell n k 5, digCell n k 6, digCell n k 7, digCell n k 8]

theorem digCells9 (n : Nat) : digCells n 9 = #[.int .u8 (dsign n 8), .int .u8 (dsign n 7), .int .u8 (dsign n 6), .int .u8 (dsign n 5), .int .u8 (dsign n 4), .int .u8 (dsign n 3), .int .u8 (dsign n 2), .int .u8 (dsign n 1), .int .u8 (dsign n 0)] := by simp [digCells, digCell]

set_option maxHeartbeats 2000000 in
theorem digits_ok (n : Nat) (w : World) (hn : n ≤ 4294967295) :
    Calls Tryd.prog 57 #[.int .u32 n] w fun e w' => e = .returned (.agg #[.int .u8 (dsign n 8), .int .u8 (dsign n 7), .int .u8 (dsign n 6), .int .u8 (dsign n 5), .int .u8 (dsign n 4), .int .u8 (dsign n 3), .int .u8 (dsign n 2), .int .u8 (dsign n 1), .int .u8 (dsign n 0)]) ∧ Below w.heap.size w w' := by
  go_enter Tryd.func57, Tryd.ntmps57
  go_wp2
  go_loopw [0, 5] (fun v0 v5 wr => ∃ k : Nat, v0 = .int .u32 (n / 10 ^ k : Nat) ∧ v5 = .int .i64 k ∧ k ≤ 9 ∧ wr = (w.alloc (.cells #[.int .u8 0, .int .u8 0, .int .u8 0, .int .u8 0, .int .u8 0, .int .u8 0, .int .u8 0, .int .u8 0, .int .u8 0] 76)).alloc (.cells (digCells n k) 76)) (fun _ v5 _ => 9 - (intOf v5).toNat)
  case atStart => exact ⟨0, by simp, rfl, by omega, rfl⟩
  case round =>
    obtain ⟨k, rfl, rfl, hk, rfl⟩ := hrel
    have hcase : k = 0 ∨ k = 1 ∨ k = 2 ∨ k = 3 ∨ k = 4 ∨ k = 5 ∨ k = 6 ∨ k = 7 ∨ k = 8 ∨ k = 9 := by omega
    obtain ⟨q, hq⟩ : ∃ q, n / 10 ^ k = q := ⟨_, rfl⟩
    have hql : q ≤ 4294967295 := by rw [← hq]; exact Nat.le_trans (Nat.div_le_self _ _) hn
    obtain ⟨m, hm⟩ : ∃ m, q % 10 = m := ⟨_, rfl⟩
    have hml : m < 10 := by rw [← hm]; exact Nat.mod_lt _ (by decide)
    have hnx : n / 10 ^ (k + 1) = q / 10 := by rw [← hq, Nat.pow_succ, Nat.div_div_eq_div_mul]
    have ha : (q : Int).tmod 10 = (m : Int) := by rw [Int.tmod_eq_emod_of_nonneg (by omega), ← hm]; omega
    have ha2 : (q : Int) % 10 = (m : Int) := by rw [← hm]; omega
    have e8 : IntKind.u8.wrap (48 + (m : Int)) = 48 + (m : Int) := by rw [IntKind.wrap_u8]; omega
    rw [hq]
    have HQ := Lib.hid hq
    have HM := Lib.hid hm
    have HN := Lib.hid hnx
    clear hq hm hk hnx
    rcases hcase with rfl | rfl | rfl | rfl | rfl | rfl | rfl | rfl | rfl | rfl
    · simp only [digCells]
      go_wp2
      go_roundw
      case rel => exact ⟨1, by rw [HN.out]; simp, rfl, by omega, by rw [← HM.out, ← HQ.out]; simp [digCells, digCell, dsign]⟩
      case measure => simp [intOf]
    · simp only [digCells]
      go_wp2
      go_roundw
      case rel => exact ⟨2, by rw [HN.out]; simp, rfl, by omega, by rw [← HM.out, ← HQ.out]; simp [digCells, digCell, dsign]⟩
      case measure => simp [intOf]
    · simp only [digCells]
      go_wp2
      go_roundw
      case rel => exact ⟨3, by rw [HN.out]; simp, rfl, by omega, by rw [← HM.out, ← HQ.out]; simp [digCells, digCell, dsign]⟩
      case measure => simp [intOf]
    · simp only [digCells]
      go_wp2
      go_roundw
      case rel => exact ⟨4, by rw [HN.out]; simp, rfl, by omega, by rw [← HM.out, ← HQ.out]; simp [digCells, digCell, dsign]⟩
      case measure => simp [intOf]
    · simp only [digCells]
      go_wp2
      go_roundw
      case rel => exact ⟨5, by rw [HN.out]; simp, rfl, by omega, by rw [← HM.out, ← HQ.out]; simp [digCells, digCell, dsign]⟩
      case measure => simp [intOf]
    · simp only [digCells]
      go_wp2
      go_roundw
      case rel => exact ⟨6, by rw [HN.out]; simp, rfl, by omega, by rw [← HM.out, ← HQ.out]; simp [digCells, digCell, dsign]⟩
      case measure => simp [intOf]
    · simp only [digCells]
      go_wp2
      go_roundw
      case rel => exact ⟨7, by rw [HN.out]; simp, rfl, by omega, by rw [← HM.out, ← HQ.out]; simp [digCells, digCell, dsign]⟩
      case measure => simp [intOf]
    · simp only [digCells]
      go_wp2
      go_roundw
      case rel => exact ⟨8, by rw [HN.out]; simp, rfl, by omega, by rw [← HM.out, ← HQ.out]; simp [digCells, digCell, dsign]⟩
      case measure => simp [intOf]
    · simp only [digCells]
      go_wp2
      go_roundw
      case rel => exact ⟨9, by rw [HN.out]; simp, rfl, by omega, by rw [← HM.out, ← HQ.out]; simp [digCells, digCell, dsign]⟩
      case measure => simp [intOf]
    · simp only [digCells9]
      go_wp2
      exact bodyPost_ret (v := .agg #[.int .u8 (dsign n 8), .int .u8 (dsign n 7), .int .u8 (dsign n 6), .int .u8 (dsign n 5), .int .u8 (dsign n 4), .int .u8 (dsign n 3), .int .u8 (dsign n 2), .int .u8 (dsign n 1), .int .u8 (dsign n 0)]) (by simp [results, Tryd.results57, go_sem]) rfl ⟨rfl, ((Below.refl _ w).alloc (Nat.le_refl _) _).alloc (by simp) _⟩
end Go.Proofs.YtegdbcnloodljaaDoor
