/- The walks of the small functions of package digest. Conditions: the words that come in are words of 64 bits. -/
import Derived.Test.YteldccmnbngbfaaRows
import Derived.Test.YteldccmnbngbfaaWords
namespace Go.Proofs.Yteldccmnbngbfaa
open Go.RowKit

def insteadV (h o : Int) : Int := if (wrap64 h == -1) = true then o else wrap64 h

set_option maxHeartbeats 400000 in
theorem instead_any (h : Int) (o : Int) (w : World) :
    Calls Try.prog 28 #[.int .u64 h, .int .i64 o] w fun e w' => e = .returned (.int .i64 (insteadV h o)) ∧ w = w' := by
  go_enter Try.func28, Try.ntmps28
  go_wp2
  all_goals go_ret
  all_goals (refine ⟨?_, rfl⟩; simp [insteadV, *])

set_option maxHeartbeats 400000 in
theorem stands1_any (a : Addr) (w : World) (o : Int) (h : w.cell? a = some (.int .i64 o)) :
    Calls Try.prog 36 #[.pointer (some a)] w fun e w' => e = .returned (.int .i64 o) ∧ w = w' := by
  go_enter Try.func36, Try.ntmps36
  go_wp2
  all_goals go_ret
  all_goals exact ⟨rfl, rfl⟩

set_option maxHeartbeats 400000 in
theorem stands_any (w : World) (o : Int) :
    Calls Try.prog 25 #[.int .i64 o] w fun e w' => e = .returned (.func (.func 36) #[] #[.pointer (some ⟨w.heap.size, 0, none⟩)]) ∧ w' = w.alloc (.cells #[.int .i64 o] 3) := by
  go_enter Try.func25, Try.ntmps25
  go_wp2
  all_goals go_ret
  all_goals exact ⟨rfl, rfl⟩

set_option maxHeartbeats 400000 in
theorem hash_any (h : Int) (a : Addr) (o : Int) (w : World) (hc : w.cell? a = some (.int .i64 o)) :
    Calls Try.prog 24 #[.int .u64 h, .func (.func 36) #[] #[.pointer (some a)]] w fun e w' => e = .returned (.int .i64 (insteadV h o)) ∧ w = w' := by
  go_enter Try.func24, Try.ntmps24
  go_wp2_with (first | (go_at_call 36; refine (stands1_any _ _ _ (by assumption)).mono ?_; rintro e w' ⟨rfl, rfl⟩))
  all_goals go_ret
  all_goals (refine ⟨?_, rfl⟩; simp [insteadV, *])

/-- One step of Tuple's hash; one of Frozen's; one of Text's. -/
def tupStep (x p : Int) : Int := IntKind.u64.wrap (bits BinOp.or IntKind.u64 (IntKind.u64.wrap (IntKind.u64.wrap (x + IntKind.u64.wrap (p * 14029467366897019727)) * 2147483648)) (IntKind.u64.wrap (x + IntKind.u64.wrap (p * 14029467366897019727)) / 8589934592) * 11400714785074694791)
def froStep (x p : Int) : Int := bits BinOp.xor IntKind.u64 x (IntKind.u64.wrap (bits BinOp.xor IntKind.u64 (bits BinOp.xor IntKind.u64 p 89869747) (IntKind.u64.wrap (p * 65536)) * 3644798167))

set_option maxHeartbeats 400000 in
theorem tuple1_any (x p : Int) (w : World) :
    Calls Try.prog 32 #[.int .u64 x, .int .u64 p] w fun e w' => e = .returned (.int .u64 (tupStep x p)) ∧ w = w' := by
  have hb : bits BinOp.and IntKind.u64 31 63 = 31 := by kernel_rfl
  go_enter Try.func32, Try.ntmps32
  go_wp2
  all_goals go_ret
  all_goals exact ⟨rfl, rfl⟩

set_option maxHeartbeats 400000 in
theorem frozen1_any (x p : Int) (w : World) :
    Calls Try.prog 31 #[.int .u64 x, .int .u64 p] w fun e w' => e = .returned (.int .u64 (froStep x p)) ∧ w = w' := by
  go_enter Try.func31, Try.ntmps31
  go_wp2
  all_goals go_ret
  all_goals exact ⟨rfl, rfl⟩

/-- The fold of a step over the words of a list of ints. -/
def foldW (F : Int → Int → Int) (x : Int) (zs : List Int) : Int := zs.foldl (fun a z => F a (IntKind.u64.wrap z)) x
theorem foldW_succ (F : Int → Int → Int) (x : Int) (zs : List Int) (k : Nat) (z : Int) (h : zs[k]? = some z) :
    foldW F x (zs.take (k + 1)) = F (foldW F x (zs.take k)) (IntKind.u64.wrap z) := by
  have hk : k < zs.length := by
    rcases Nat.lt_or_ge k zs.length with h1 | h1
    · exact h1
    · rw [List.getElem?_eq_none h1] at h; cases h
  rw [List.take_succ_eq_append_getElem hk]
  rw [List.getElem?_eq_getElem hk] at h
  injection h with h
  rw [h, foldW, foldW, List.foldl_append]; rfl

set_option maxHeartbeats 400000 in
theorem foldT_any (x : Int) (A : Option Addr) (c : Nat) (zs : List Int) (w : World) (hr : RdI w .i64 A zs) (hl : zs.length ≤ 9223372036854775807) :
    Calls Try.prog 30 #[.int .u64 x, .func (.func 32) #[] #[], .slice A zs.length c] w fun e w' => e = .returned (.int .u64 (foldW tupStep x zs)) ∧ w = w' := by
  go_enter Try.func30, Try.ntmps30
  go_wp2
  go_loop [0, 11] (fun v i => ∃ k : Nat, k ≤ zs.length ∧ i = .int .i64 k ∧ v = .int .u64 (foldW tupStep x (zs.take k))) (fun _ i => zs.length - (intOf i).toNat)
  case atStart => exact ⟨0, Nat.zero_le _, rfl, rfl⟩
  case round =>
    obtain ⟨k, hk, rfl, rfl⟩ := hrel
    by_cases hlt : k < zs.length
    · obtain ⟨b, off, z, rfl, hz, hc⟩ := hr k hlt
      have HZ := Lib.hid hz
      clear hz
      go_wp2_with (first | (go_at_call 32; refine (tuple1_any _ _ _).mono ?_; rintro e w' ⟨rfl, rfl⟩))
      go_round
      case rel => exact ⟨k + 1, by omega, by go_num, by rw [foldW_succ _ _ _ _ _ HZ.out]⟩
      case measure => simp [intOf]; omega
    · go_wp2
      go_ret
      have : zs.take k = zs := List.take_of_length_le (by omega)
      rw [this]
      exact ⟨rfl, rfl⟩

set_option maxHeartbeats 400000 in
theorem foldF_any (x : Int) (A : Option Addr) (c : Nat) (zs : List Int) (w : World) (hr : RdI w .i64 A zs) (hl : zs.length ≤ 9223372036854775807) :
    Calls Try.prog 30 #[.int .u64 x, .func (.func 31) #[] #[], .slice A zs.length c] w fun e w' => e = .returned (.int .u64 (foldW froStep x zs)) ∧ w = w' := by
  go_enter Try.func30, Try.ntmps30
  go_wp2
  go_loop [0, 11] (fun v i => ∃ k : Nat, k ≤ zs.length ∧ i = .int .i64 k ∧ v = .int .u64 (foldW froStep x (zs.take k))) (fun _ i => zs.length - (intOf i).toNat)
  case atStart => exact ⟨0, Nat.zero_le _, rfl, rfl⟩
  case round =>
    obtain ⟨k, hk, rfl, rfl⟩ := hrel
    by_cases hlt : k < zs.length
    · obtain ⟨b, off, z, rfl, hz, hc⟩ := hr k hlt
      have HZ := Lib.hid hz
      clear hz
      go_wp2_with (first | (go_at_call 31; refine (frozen1_any _ _ _).mono ?_; rintro e w' ⟨rfl, rfl⟩))
      go_round
      case rel => exact ⟨k + 1, by omega, by go_num, by rw [foldW_succ _ _ _ _ _ HZ.out]⟩
      case measure => simp [intOf]; omega
    · go_wp2
      go_ret
      have : zs.take k = zs := List.take_of_length_le (by omega)
      rw [this]
      exact ⟨rfl, rfl⟩
end Go.Proofs.Yteldccmnbngbfaa
