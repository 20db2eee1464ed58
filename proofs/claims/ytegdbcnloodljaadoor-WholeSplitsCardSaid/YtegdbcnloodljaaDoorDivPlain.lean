/- Plain arithmetic of a long division by two digits of 32 bits. No program in sight. -/
import Derived.Test.YtegdbcnloodljaaDoorBits
namespace Go.Proofs.YtegdbcnloodljaaDoor
set_option linter.unusedVariables false
set_option linter.unusedSimpArgs false

/-- The state of a digit's search: q digits tried, r the rest by the divisor's high digit. -/
structure Digit (v1 v0 U u q r : Int) : Prop where
  q0 : 0 ≤ q
  r0 : 0 ≤ r
  sum : q * v1 + r = U
  over : U * 4294967296 + u < (q + 1) * (v1 * 4294967296 + v0)
  few : q ≤ 4294967297

theorem digit_test {q v1 v0 r U u : Int} (hq : q * v1 + r = U) : q * (v1 * 4294967296 + v0) ≤ U * 4294967296 + u ↔ q * v0 ≤ 4294967296 * r + u := by
  have e : q * (v1 * 4294967296 + v0) = q * v1 * 4294967296 + q * v0 := by rw [Int.mul_add, Int.mul_assoc]
  rw [e]
  generalize q * v1 = a at *
  generalize q * v0 = b at *
  omega

theorem Digit.start {v1 v0 U u : Int} (h1 : 2147483648 ≤ v1) (h0 : 0 ≤ v0) (h0' : v0 < 4294967296) (hU : 0 ≤ U) (hU' : U < v1 * 4294967296 + v0) (hu : u < 4294967296) :
    Digit v1 v0 U u (U / v1) (U % v1) := by
  have hv : 0 < v1 := by omega
  have e := Int.mul_ediv_add_emod U v1
  have r0 := Int.emod_nonneg U (show v1 ≠ 0 by omega)
  have r1 := Int.emod_lt_of_pos U hv
  have q0 : 0 ≤ U / v1 := Int.ediv_nonneg hU (by omega)
  refine ⟨q0, r0, by rw [Int.mul_comm]; exact e, ?_, ?_⟩
  · have e2 : (U / v1 + 1) * (v1 * 4294967296 + v0) = (v1 * (U / v1) + v1) * 4294967296 + (U / v1 + 1) * v0 := by
      grind
    have p : 0 ≤ (U / v1 + 1) * v0 := Int.mul_nonneg (by omega) h0
    rw [e2]
    generalize (U / v1 + 1) * v0 = a at *
    generalize v1 * (U / v1) = b at *
    omega
  · have hle : U / v1 < 4294967298 := by
      apply Int.ediv_lt_of_lt_mul hv
      omega
    omega

/-- The test says 'too much': one less. -/
theorem Digit.less {v1 v0 U u q r : Int} (h : Digit v1 v0 U u q r) (h1 : 2147483648 ≤ v1) (h0 : 0 ≤ v0) (hU' : U < v1 * 4294967296 + v0) (hU : 0 ≤ U) (hu0 : 0 ≤ u) (hu : u < 4294967296)
    (ht : 4294967296 ≤ q ∨ 4294967296 * r + u < q * v0) : Digit v1 v0 U u (q - 1) (r + v1) ∧ 1 ≤ q := by
  have hlt : U * 4294967296 + u < q * (v1 * 4294967296 + v0) := by
    rcases ht with ht | ht
    · have : 4294967296 * (v1 * 4294967296 + v0) ≤ q * (v1 * 4294967296 + v0) := Int.mul_le_mul_of_nonneg_right ht (by omega)
      generalize q * (v1 * 4294967296 + v0) = a at *
      omega
    · rw [← Int.not_le, digit_test h.sum]; omega
  have hq : 1 ≤ q := by
    rcases Int.lt_or_le 0 q with h' | h'
    · omega
    · have : q = 0 := by have := h.q0; omega
      subst this
      simp at hlt
      omega
  refine ⟨⟨by omega, by have := h.r0; omega, ?_, by simpa using hlt, by have := h.few; omega⟩, hq⟩
  have := h.sum
  rw [Int.sub_mul, Int.one_mul]
  generalize q * v1 = a at *
  omega

/-- The digit is right. -/
structure Right (v1 v0 U u q : Int) : Prop where
  q0 : 0 ≤ q
  q1 : q < 4294967296
  le : q * (v1 * 4294967296 + v0) ≤ U * 4294967296 + u
  lt : U * 4294967296 + u < (q + 1) * (v1 * 4294967296 + v0)

theorem Digit.done {v1 v0 U u q r : Int} (h : Digit v1 v0 U u q r) (h1 : 2147483648 ≤ v1) (h0 : 0 ≤ v0) (hU' : U < v1 * 4294967296 + v0) (hu : u < 4294967296)
    (ht : q * v0 ≤ 4294967296 * r + u) : Right v1 v0 U u q := by
  have hle := (digit_test h.sum).2 ht
  refine ⟨h.q0, ?_, hle, h.over⟩
  rcases Int.lt_or_le q 4294967296 with h' | h'
  · exact h'
  · have : 4294967296 * (v1 * 4294967296 + v0) ≤ q * (v1 * 4294967296 + v0) := Int.mul_le_mul_of_nonneg_right h' (by omega)
    generalize q * (v1 * 4294967296 + v0) = a at *
    omega

/-- Left by the break: the rest is a digit or more. -/
theorem Digit.broke {v1 v0 U u q r : Int} (h : Digit v1 v0 U u q r) (h1 : 2147483648 ≤ v1) (h0 : 0 ≤ v0) (h0' : v0 < 4294967296) (hU' : U < v1 * 4294967296 + v0) (hu0 : 0 ≤ u) (hu : u < 4294967296)
    (hq : q ≤ 4294967296) (hr : 4294967296 ≤ r) : Right v1 v0 U u q := by
  refine h.done h1 h0 hU' hu ?_
  have a1 : q * v0 ≤ 4294967296 * v0 := Int.mul_le_mul_of_nonneg_right hq h0
  generalize q * v0 = a at *
  omega

theorem Right.rest {v1 v0 U u q : Int} (h : Right v1 v0 U u q) : 0 ≤ U * 4294967296 + u - q * (v1 * 4294967296 + v0) ∧ U * 4294967296 + u - q * (v1 * 4294967296 + v0) < v1 * 4294967296 + v0 := by
  have := h.le
  have h2 := h.lt
  rw [Int.add_mul, Int.one_mul] at h2
  omega

/-- A product of a digit less than 2^32 and one less than 2^32 is a word. -/
theorem prod_word {q v : Int} (h0 : 0 ≤ q) (h1 : q < 4294967296) (k0 : 0 ≤ v) (k1 : v < 4294967296) : 0 ≤ q * v ∧ q * v < 18446744073709551616 := by
  refine ⟨Int.mul_nonneg h0 k0, ?_⟩
  have a1 : q * v ≤ 4294967295 * v := Int.mul_le_mul_of_nonneg_right (by omega) k0
  omega

/-- The rest of one digit, as the words reckon it. -/
theorem rest_word {v1 v0 U u q : Int} (h : Right v1 v0 U u q) (hy0 : 0 ≤ v1 * 4294967296 + v0) (hy : v1 * 4294967296 + v0 < 18446744073709551616) :
    ((U * 4294967296 % 18446744073709551616 + u) % 18446744073709551616 - q * (v1 * 4294967296 + v0) % 18446744073709551616) % 18446744073709551616 = U * 4294967296 + u - q * (v1 * 4294967296 + v0) := by
  have := h.rest
  generalize q * (v1 * 4294967296 + v0) = a at *
  omega

/-- Both digits make the quotient, and the second rest is the remainder. -/
theorem digits_make {y U u1 u0 q1 q0 N D R1 : Int} (hD : 0 < D) (hy : 0 < y)
    (hR1 : R1 = U * 4294967296 + u1 - q1 * (y * D)) (hN : (U * 4294967296 + u1) * 4294967296 + u0 = N * D)
    (h0 : 0 ≤ R1 * 4294967296 + u0 - q0 * (y * D)) (h0' : R1 * 4294967296 + u0 - q0 * (y * D) < y * D) :
    q1 * 4294967296 + q0 = N / y ∧ (R1 * 4294967296 + u0 - q0 * (y * D)) / D = N % y := by
  have e : R1 * 4294967296 + u0 - q0 * (y * D) = (N - (q1 * 4294967296 + q0) * y) * D := by
    grind
  have hz : 0 ≤ N - (q1 * 4294967296 + q0) * y := by
    rcases Int.lt_or_le (N - (q1 * 4294967296 + q0) * y) 0 with h | h
    · have := Int.mul_neg_of_neg_of_pos h hD
      omega
    · exact h
  have hz' : N - (q1 * 4294967296 + q0) * y < y := by
    rcases Int.lt_or_le (N - (q1 * 4294967296 + q0) * y) y with h | h
    · exact h
    · have := Int.mul_le_mul_of_nonneg_right h (Int.le_of_lt hD)
      omega
  rw [e, Int.mul_ediv_cancel _ (by omega)]
  generalize q1 * 4294967296 + q0 = Q at *
  have hd : N / y = Q ∧ N % y = N - Q * y := by
    have e3 : N = (N - Q * y) + y * Q := by rw [Int.mul_comm y Q]; omega
    constructor
    · have := Int.add_mul_ediv_left (N - Q * y) Q (show y ≠ 0 by omega)
      rw [← e3, Int.ediv_eq_zero_of_lt hz hz'] at this
      omega
    · have := Int.add_mul_emod_self_left (N - Q * y) y Q
      rw [← e3, Int.emod_eq_of_lt hz hz'] at this
      exact this
  exact ⟨hd.1.symm, hd.2.symm⟩
end Go.Proofs.YtegdbcnloodljaaDoor
