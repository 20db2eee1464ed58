/- math/bits.Add32, Sub32. -/
import Derived.Test.YtegdbcnloodljaaDoorW3
namespace Go.Proofs.YtegdbcnloodljaaDoor
set_option linter.unusedVariables false
set_option linter.unusedSimpArgs false
open Go.RowKit
set_option maxRecDepth 1000000

theorem add32_ok (x y c : Int) (w : World) (hx : 0 ≤ x ∧ x ≤ 4294967295) (hy : 0 ≤ y ∧ y ≤ 4294967295) (hc : 0 ≤ c ∧ c ≤ 1) :
    Calls Tryd.prog 78 #[.int .u32 x, .int .u32 y, .int .u32 c] w fun e w' => e = .returned (.tuple #[.int .u32 ((x + y + c) % 4294967296), .int .u32 ((x + y + c) / 4294967296)]) ∧ w' = w := by
  have e1 : IntKind.u64.wrap (x + y) = x + y := by rw [IntKind.wrap_u64]; omega
  have e2 : IntKind.u64.wrap (x + y + c) = x + y + c := by rw [IntKind.wrap_u64]; omega
  have e3 : IntKind.u32.wrap (x + y + c) = (x + y + c) % 4294967296 := by rw [IntKind.wrap_u32]
  have e4 : IntKind.u32.wrap ((x + y + c) / 4294967296) = (x + y + c) / 4294967296 := by rw [IntKind.wrap_u32]; omega
  obtain ⟨hx0, hx1⟩ := hx
  obtain ⟨hy0, hy1⟩ := hy
  obtain ⟨hc0, hc1⟩ := hc
  go_enter Tryd.func78, Tryd.ntmps78
  go_wp2
  go_ret2
  exact ⟨rfl, rfl⟩

theorem tb31 (n : Nat) (h : n < 4294967296) : n.testBit 31 = decide (2147483648 ≤ n) := by
  rw [Nat.testBit_eq_decide_div_mod_eq, Bool.eq_iff_iff]
  simp only [decide_eq_true_eq]
  omega
theorem top31 (n : Nat) (h : n < 4294967296) : n / 2147483648 = if n.testBit 31 then 1 else 0 := by
  rw [tb31 n h]
  by_cases h2 : 2147483648 ≤ n
  · rw [decide_eq_true h2, if_pos rfl]; omega
  · rw [decide_eq_false h2]; simp; omega
theorem borrow_nat (X Y C D : Nat) (hx : X < 4294967296) (hy : Y < 4294967296) (hc : C ≤ 1) (hd : (D : Int) = ((X : Int) - Y - C) % 4294967296) :
    (((4294967295 ^^^ X) &&& Y) ||| ((4294967295 ^^^ (X ^^^ Y)) &&& D)) / 2147483648 = if X < Y + C then 1 else 0 := by
  have hD : D < 4294967296 := by omega
  have h1 : (4294967295 ^^^ X) &&& Y < 2 ^ 32 := Nat.and_lt_two_pow _ hy
  have h2 : (4294967295 ^^^ (X ^^^ Y)) &&& D < 2 ^ 32 := Nat.and_lt_two_pow _ hD
  have h3 := Nat.or_lt_two_pow h1 h2
  rw [top31 _ h3, Nat.testBit_or, Nat.testBit_and, Nat.testBit_and, Nat.testBit_xor, Nat.testBit_xor, Nat.testBit_xor, tb31 X hx, tb31 Y hy, tb31 D hD, show Nat.testBit 4294967295 31 = true by decide]
  by_cases a : 2147483648 ≤ X <;> by_cases b : 2147483648 ≤ Y <;> by_cases d : 2147483648 ≤ D <;> by_cases e : X < Y + C <;> simp [a, b, d, e] <;> omega
theorem u32_and (a b : Nat) (ha : a < 4294967296) (hb : b < 4294967296) : bits BinOp.and IntKind.u32 (a : Int) (b : Int) = ((a &&& b : Nat) : Int) := by
  have hx : a &&& b < 2 ^ 32 := Nat.and_lt_two_pow _ hb
  have h1 : (BitVec.ofInt 32 (a : Int)).toNat = a := by rw [BitVec.ofInt_natCast, BitVec.toNat_ofNat]; exact Nat.mod_eq_of_lt (by omega)
  have h2 : (BitVec.ofInt 32 (b : Int)).toNat = b := by rw [BitVec.ofInt_natCast, BitVec.toNat_ofNat]; exact Nat.mod_eq_of_lt (by omega)
  show IntKind.u32.wrap ((BitVec.ofInt 32 (a : Int) &&& BitVec.ofInt 32 (b : Int)).toNat : Int) = _
  rw [BitVec.toNat_and, h1, h2, IntKind.wrap_u32]; omega
theorem u32_or (a b : Nat) (ha : a < 4294967296) (hb : b < 4294967296) : bits BinOp.or IntKind.u32 (a : Int) (b : Int) = ((a ||| b : Nat) : Int) := by
  have hx : a ||| b < 2 ^ 32 := Nat.or_lt_two_pow ha hb
  have h1 : (BitVec.ofInt 32 (a : Int)).toNat = a := by rw [BitVec.ofInt_natCast, BitVec.toNat_ofNat]; exact Nat.mod_eq_of_lt (by omega)
  have h2 : (BitVec.ofInt 32 (b : Int)).toNat = b := by rw [BitVec.ofInt_natCast, BitVec.toNat_ofNat]; exact Nat.mod_eq_of_lt (by omega)
  show IntKind.u32.wrap ((BitVec.ofInt 32 (a : Int) ||| BitVec.ofInt 32 (b : Int)).toNat : Int) = _
  rw [BitVec.toNat_or, h1, h2, IntKind.wrap_u32]; omega
theorem u32_xor (a b : Nat) (ha : a < 4294967296) (hb : b < 4294967296) : bits BinOp.xor IntKind.u32 (a : Int) (b : Int) = ((a ^^^ b : Nat) : Int) := by
  have hx : a ^^^ b < 2 ^ 32 := Nat.xor_lt_two_pow ha hb
  have h1 : (BitVec.ofInt 32 (a : Int)).toNat = a := by rw [BitVec.ofInt_natCast, BitVec.toNat_ofNat]; exact Nat.mod_eq_of_lt (by omega)
  have h2 : (BitVec.ofInt 32 (b : Int)).toNat = b := by rw [BitVec.ofInt_natCast, BitVec.toNat_ofNat]; exact Nat.mod_eq_of_lt (by omega)
  show IntKind.u32.wrap ((BitVec.ofInt 32 (a : Int) ^^^ BitVec.ofInt 32 (b : Int)).toNat : Int) = _
  rw [BitVec.toNat_xor, h1, h2, IntKind.wrap_u32]; omega
theorem borrow_bits (x y c : Int) (hx : 0 ≤ x ∧ x ≤ 4294967295) (hy : 0 ≤ y ∧ y ≤ 4294967295) (hc : 0 ≤ c ∧ c ≤ 1) :
    bits BinOp.or IntKind.u32 (bits BinOp.and IntKind.u32 (bits BinOp.xor IntKind.u32 IntKind.u32.max x) y) (bits BinOp.and IntKind.u32 (bits BinOp.xor IntKind.u32 IntKind.u32.max (bits BinOp.xor IntKind.u32 x y)) ((x - y - c) % 4294967296)) / 2147483648 = if x < y + c then 1 else 0 := by
  obtain ⟨X, rfl⟩ : ∃ X : Nat, x = X := ⟨x.toNat, by omega⟩
  obtain ⟨Y, rfl⟩ : ∃ Y : Nat, y = Y := ⟨y.toNat, by omega⟩
  obtain ⟨C, rfl⟩ : ∃ C : Nat, c = C := ⟨c.toNat, by omega⟩
  obtain ⟨D, hD⟩ : ∃ D : Nat, ((X : Int) - Y - C) % 4294967296 = D := ⟨(((X : Int) - Y - C) % 4294967296).toNat, by omega⟩
  have hx4 : X < 4294967296 := by omega
  have hy4 : Y < 4294967296 := by omega
  have hd4 : D < 4294967296 := by omega
  have hm : IntKind.u32.max = ((4294967295 : Nat) : Int) := rfl
  have q1 : X ^^^ Y < 4294967296 := Nat.xor_lt_two_pow (n := 32) hx4 hy4
  have q2 : 4294967295 ^^^ X < 4294967296 := Nat.xor_lt_two_pow (n := 32) (by decide) hx4
  have q3 : 4294967295 ^^^ (X ^^^ Y) < 4294967296 := Nat.xor_lt_two_pow (n := 32) (by decide) q1
  have q4 : (4294967295 ^^^ X) &&& Y < 4294967296 := Nat.and_lt_two_pow (n := 32) _ hy4
  have q5 : (4294967295 ^^^ (X ^^^ Y)) &&& D < 4294967296 := Nat.and_lt_two_pow (n := 32) _ hd4
  rw [hD, hm, u32_xor X Y hx4 hy4, u32_xor _ X (by decide) hx4, u32_xor _ _ (by decide) q1, u32_and _ Y q2 hy4, u32_and _ D q3 hd4, u32_or _ _ q4 q5]
  have := borrow_nat X Y C D hx4 hy4 (by omega) hD.symm
  rw [show (2147483648 : Int) = ((2147483648 : Nat) : Int) from rfl, ← Int.natCast_ediv, this]
  by_cases h : X < Y + C
  · rw [if_pos h, if_pos (by omega)]; rfl
  · rw [if_neg h, if_neg (by omega)]; rfl

theorem sub32_ok (x y c : Int) (w : World) (hx : 0 ≤ x ∧ x ≤ 4294967295) (hy : 0 ≤ y ∧ y ≤ 4294967295) (hc : 0 ≤ c ∧ c ≤ 1) :
    Calls Tryd.prog 79 #[.int .u32 x, .int .u32 y, .int .u32 c] w fun e w' => e = .returned (.tuple #[.int .u32 ((x - y - c) % 4294967296), .int .u32 (if x < y + c then 1 else 0)]) ∧ w' = w := by
  have e1 : IntKind.u32.wrap (x - y - c) = (x - y - c) % 4294967296 := by rw [IntKind.wrap_u32]
  have hb := borrow_bits x y c hx hy hc
  obtain ⟨b, hbe⟩ : ∃ b : Int, (if x < y + c then 1 else 0) = b := ⟨_, rfl⟩
  rw [hbe] at hb ⊢
  have HB := Lib.hid hb
  clear hb hbe
  obtain ⟨hx0, hx1⟩ := hx
  obtain ⟨hy0, hy1⟩ := hy
  obtain ⟨hc0, hc1⟩ := hc
  go_enter Tryd.func79, Tryd.ntmps79
  go_wp2
  all_goals refine bodyPost_ret (v := .tuple #[.int .u32 ((x - y - c) % 4294967296), .int .u32 b]) ?_ rfl ⟨rfl, rfl⟩
  all_goals rw [← HB.out]; simp [results, Tryd.results79, go_sem]
end Go.Proofs.YtegdbcnloodljaaDoor
