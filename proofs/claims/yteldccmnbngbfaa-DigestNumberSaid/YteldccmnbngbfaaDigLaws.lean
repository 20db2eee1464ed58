/- The walks of the laws DigestText and DigestNumber. Conditions: none but how the arguments read. -/
import Derived.Test.YteldccmnbngbfaaDigAwake
namespace Go.Proofs.Yteldccmnbngbfaa
open Go.RowKit

theorem textV_ne (l : List UInt8) : textV l ≠ -1 := insteadV_ne _ _ (by decide)

set_option maxHeartbeats 400000 in
theorem lawText_any (s : ByteArray) (w : World) (hs : s.size ≤ maxLen) : Calls Try.prog 4 #[.string s] w fun e w' => e = .returned (.bool true) ∧ Below w.heap.size w w' := by
  unfold maxLen at hs
  by_cases h : s.size ≤ 3000
  · have hne := textV_ne s.data.toList
    have e1 : ((textV s.data.toList) == (textV s.data.toList)) = true := by simp
    have e2 : ((textV s.data.toList) != -1) = true := by simp [hne]
    clear hne
    have hB : Below w.heap.size w w := Below.refl _ _
    go_enter Try.func4, Try.ntmps4
    go_wp2_with (first
      | (go_at_call 14; refine (text_any _ _ h).mono ?_; rintro e w1 ⟨rfl, hb1⟩; have hB := hB.trans (hb1.mono hB.size))
      | (go_at_call 15; refine (refText_any _ _ h).mono ?_; rintro e w1 ⟨rfl, rfl⟩)
      | (go_at_call 8; refine (awake_any _).mono ?_; rintro e w1 ⟨rfl, hb1⟩; have hB := hB.trans (hb1.mono hB.size)))
    go_ret
    exact ⟨rfl, hB⟩
  · go_enter Try.func4, Try.ntmps4
    go_wp2
    go_ret
    exact ⟨rfl, Below.refl _ _⟩

theorem numberV_ne (x : Int) : numberV x ≠ -1 := insteadV_ne _ _ (by decide)
theorem numberV_small (x : Int) (h0 : 0 ≤ x) (h1 : x ≤ 2147483647) : numberV x = wrap64 (x % 16 * 1152921504606846976 + x / 16) := by
  have e : IntKind.u64.wrap x = x := by rw [wrapU64]; omega
  rw [numberV, e, rotr4, insteadV, if_neg]
  rw [wrapI64]
  simp
  omega
theorem numberV_inj (a b : Int) (a0 : 0 ≤ a) (a1 : a ≤ 2147483647) (b0 : 0 ≤ b) (b1 : b ≤ 2147483647) : (numberV a == numberV b) = (a == b) := by
  rw [numberV_small a a0 a1, numberV_small b b0 b1, wrapI64, wrapI64, Bool.eq_iff_iff]
  simp only [beq_iff_eq]
  constructor
  · intro h
    obtain ⟨p, hp⟩ : ∃ p, p = a % 16 := ⟨_, rfl⟩
    obtain ⟨q, hq⟩ : ∃ q, q = a / 16 := ⟨_, rfl⟩
    obtain ⟨p', hp'⟩ : ∃ p, p = b % 16 := ⟨_, rfl⟩
    obtain ⟨q', hq'⟩ : ∃ q, q = b / 16 := ⟨_, rfl⟩
    rw [← hp, ← hq, ← hp', ← hq'] at h
    have hh : p = p' ∧ q = q' := by
      have : 0 ≤ p ∧ p < 16 ∧ 0 ≤ p' ∧ p' < 16 ∧ 0 ≤ q ∧ q < 1152921504606846976 ∧ 0 ≤ q' ∧ q' < 1152921504606846976 := by omega
      clear hp hq hp' hq'
      omega
    omega
  · rintro rfl; rfl

set_option maxHeartbeats 1000000 in
theorem lawNumber_any (a b : Int) (w : World) (wa : -9223372036854775808 ≤ a ∧ a ≤ 9223372036854775807) (wb : -9223372036854775808 ≤ b ∧ b ≤ 9223372036854775807) :
    Calls Try.prog 5 #[.int .i64 a, .int .i64 b] w fun e w' => e = .returned (.bool true) ∧ Below w.heap.size w w' := by
  obtain ⟨wa0, wa1⟩ := wa
  obtain ⟨wb0, wb1⟩ := wb
  have e1 : (numberV a != numberV a) = false := by simp
  have e2 : (numberV a == -1) = false := by simpa using numberV_ne a
  have e3 : (numberV b == -1) = false := by simpa using numberV_ne b
  have hB : Below w.heap.size w w := Below.refl _ _
  have hcase : (0 ≤ a ∧ a ≤ 2147483647 ∧ 0 ≤ b ∧ b ≤ 2147483647) ∨ a < 0 ∨ (0 ≤ a ∧ 2147483647 < a) ∨ (0 ≤ a ∧ a ≤ 2147483647 ∧ b < 0) ∨ (0 ≤ a ∧ a ≤ 2147483647 ∧ 0 ≤ b ∧ 2147483647 < b) := by omega
  rcases hcase with ⟨a0, a1, b0, b1⟩ | a0 | ⟨a0, a1⟩ | ⟨a0, a1, b0⟩ | ⟨a0, a1, b0, b1⟩
  · have hinj := numberV_inj a b a0 a1 b0 b1
    obtain ⟨p, hp⟩ : ∃ p, (a == b) = p := ⟨_, rfl⟩
    rw [hp] at hinj
    cases p
    all_goals
      go_enter Try.func5, Try.ntmps5
      go_wp2_with (first
        | (go_at_call 16; refine (number_any _ _).mono ?_; rintro e w1 ⟨rfl, hb1⟩; have hB := hB.trans (hb1.mono hB.size))
        | (go_at_call 17; refine (refNumber_any _ _).mono ?_; rintro e w1 ⟨rfl, rfl⟩)
        | (go_at_call 8; refine (awake_any _).mono ?_; rintro e w1 ⟨rfl, hb1⟩; have hB := hB.trans (hb1.mono hB.size)))
      go_ret
      exact ⟨rfl, hB⟩
  all_goals
    go_enter Try.func5, Try.ntmps5
    go_wp2_with (first
      | (go_at_call 16; refine (number_any _ _).mono ?_; rintro e w1 ⟨rfl, hb1⟩; have hB := hB.trans (hb1.mono hB.size))
      | (go_at_call 17; refine (refNumber_any _ _).mono ?_; rintro e w1 ⟨rfl, rfl⟩)
      | (go_at_call 8; refine (awake_any _).mono ?_; rintro e w1 ⟨rfl, hb1⟩; have hB := hB.trans (hb1.mono hB.size)))
    go_ret
    exact ⟨rfl, hB⟩
end Go.Proofs.Yteldccmnbngbfaa
