/- Plain facts on words of 64 and 32 bits: joins by 'or', what a rotation gives. No program in sight. Conditions: the words are words. -/
import Derived.WalkKit
namespace Go.Proofs.YtegdbcnloodljaaDoor
set_option linter.unusedVariables false
set_option linter.unusedSimpArgs false
open Go.RowKit

theorem wrapU64 (n : Int) : IntKind.u64.wrap n = n % 18446744073709551616 := by simp [IntKind.wrap, IntKind.bits, IntKind.signed]
theorem wrapU32 (n : Int) : IntKind.u32.wrap n = n % 4294967296 := by simp [IntKind.wrap, IntKind.bits, IntKind.signed]
theorem wrapI64 (n : Int) : wrap64 n = (n + 9223372036854775808) % 18446744073709551616 - 9223372036854775808 := by
  unfold wrap64; omega

/-- 'or' of two words whose bits lie apart: a multiple of 2^i, and less than 2^i. -/
theorem or_join (i : Nat) (a b : Int) (ha0 : 0 ≤ a) (ha : a < 18446744073709551616) (hb0 : 0 ≤ b) (hb : b < 18446744073709551616)
    (hm : a.toNat % 2 ^ i = 0) (hl : b.toNat < 2 ^ i) : bits BinOp.or IntKind.u64 a b = a + b := by
  rw [u64_or a b ha0 ha hb0 hb, nat_join i _ _ hm hl]
  omega
theorem or_join' (i : Nat) (a b : Int) (ha0 : 0 ≤ a) (ha : a < 18446744073709551616) (hb0 : 0 ≤ b) (hb : b < 18446744073709551616)
    (hm : a.toNat % 2 ^ i = 0) (hl : b.toNat < 2 ^ i) : bits BinOp.or IntKind.u64 b a = a + b := by
  rw [u64_or b a hb0 hb ha0 ha, Nat.or_comm, nat_join i _ _ hm hl]
  omega

theorem rotr4_l (x : Int) (h0 : 0 ≤ x) (h1 : x < 18446744073709551616) :
    bits BinOp.or IntKind.u64 (IntKind.u64.wrap (x * 1152921504606846976)) (x / 16) = x % 16 * 1152921504606846976 + x / 16 := by
  have e : x * 1152921504606846976 % 18446744073709551616 = x % 16 * 1152921504606846976 := by omega
  rw [wrapU64, e]
  refine or_join 60 _ _ (by omega) (by omega) (by omega) (by omega) ?_ ?_
  · obtain ⟨n, hn⟩ := Int.eq_ofNat_of_zero_le (show 0 ≤ x % 16 by omega)
    rw [hn]
    have : ((n : Int) * 1152921504606846976).toNat = n * 1152921504606846976 := by omega
    rw [this]; exact Nat.mul_mod_left n (2 ^ 60)
  · have : (2 : Nat) ^ 60 = 1152921504606846976 := by rfl
    omega
theorem rotr4_r (x : Int) (h0 : 0 ≤ x) (h1 : x < 18446744073709551616) :
    bits BinOp.or IntKind.u64 (x / 16) (IntKind.u64.wrap (x * 1152921504606846976)) = x % 16 * 1152921504606846976 + x / 16 := by
  have e : x * 1152921504606846976 % 18446744073709551616 = x % 16 * 1152921504606846976 := by omega
  rw [wrapU64, e]
  refine or_join' 60 _ _ (by omega) (by omega) (by omega) (by omega) ?_ ?_
  · obtain ⟨n, hn⟩ := Int.eq_ofNat_of_zero_le (show 0 ≤ x % 16 by omega)
    rw [hn]
    have : ((n : Int) * 1152921504606846976).toNat = n * 1152921504606846976 := by omega
    rw [this]; exact Nat.mul_mod_left n (2 ^ 60)
  · have : (2 : Nat) ^ 60 = 1152921504606846976 := by rfl
    omega
end Go.Proofs.YtegdbcnloodljaaDoor
