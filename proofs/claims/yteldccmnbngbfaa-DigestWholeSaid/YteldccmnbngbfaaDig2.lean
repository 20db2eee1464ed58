/- The walks of package digest's Text, Tuple, Frozen, Number, and of the references' fellows. Conditions: the lengths are ints. -/
import Derived.Test.YteldccmnbngbfaaDig1
import Derived.Test.YteldccmnbngbfaaBits
import Derived.Deep.QuietTactic
import Derived.BigQuiet
namespace Go.Proofs.Yteldccmnbngbfaa
open Go.RowKit

def tupleV (zs : List Int) : Int := insteadV (IntKind.u64.wrap (foldW tupStep 2870177450012600261 zs + bits BinOp.xor IntKind.u64 (bits BinOp.xor IntKind.u64 (zs.length : Int) 2870177450012600261) 3527539)) 1546275796
def frozenMid (x n : Int) : Int := bits BinOp.xor IntKind.u64 x ((n + 1) * 1927868237)
def frozenEnd (x : Int) : Int := bits BinOp.xor IntKind.u64 x (bits BinOp.xor IntKind.u64 (x / 2048) (x / 33554432))
def frozenV (zs : List Int) : Int := insteadV (IntKind.u64.wrap (IntKind.u64.wrap (frozenEnd (frozenMid (foldW froStep 0 zs) zs.length) * 69069) + 907133923)) 590923713

set_option maxHeartbeats 400000 in
theorem tuple_any (A : Option Addr) (c : Nat) (zs : List Int) (w : World) (hr : RdI w .i64 A zs) (hl : zs.length ≤ 3000) :
    Calls Try.prog 19 #[.slice A zs.length c] w fun e w' => e = .returned (.int .i64 (tupleV zs)) ∧ Below w.heap.size w w' := by
  go_enter Try.func19, Try.ntmps19
  go_wp2_with (first
    | (go_at_call 30; refine (foldT_any _ _ _ _ _ hr (by omega)).mono ?_; rintro e w' ⟨rfl, rfl⟩)
    | (go_at_call 25; refine (stands_any _ _).mono ?_; rintro e w' ⟨rfl, rfl⟩)
    | (go_at_call 24; refine (hash_any _ _ 1546275796 _ (by go_simp)).mono ?_; rintro e w' ⟨rfl, rfl⟩))
  go_ret
  exact ⟨rfl, (Below.refl _ _).alloc (Nat.le_refl _) _⟩

set_option maxHeartbeats 400000 in
theorem frozen_any (A : Option Addr) (c : Nat) (zs : List Int) (w : World) (hr : RdI w .i64 A zs) (hl : zs.length ≤ 3000) :
    Calls Try.prog 18 #[.slice A zs.length c] w fun e w' => e = .returned (.int .i64 (frozenV zs)) ∧ Below w.heap.size w w' := by
  go_enter Try.func18, Try.ntmps18
  go_wp2_with (first
    | (go_at_call 30; refine (foldF_any _ _ _ _ _ hr (by omega)).mono ?_; rintro e w' ⟨rfl, rfl⟩)
    | (go_at_call 25; refine (stands_any _ _).mono ?_; rintro e w' ⟨rfl, rfl⟩)
    | (go_at_call 24; refine (hash_any _ _ 590923713 _ (by go_simp)).mono ?_; rintro e w' ⟨rfl, rfl⟩))
  go_ret
  exact ⟨rfl, (Below.refl _ _).alloc (Nat.le_refl _) _⟩

set_option maxHeartbeats 400000 in
theorem refTuple_any (A : Option Addr) (c : Nat) (zs : List Int) (w : World) (hr : RdI w .i64 A zs) (hl : zs.length ≤ 3000) :
    Calls Try.prog 20 #[.slice A zs.length c] w fun e w' => e = .returned (.int .i64 (tupleV zs)) ∧ w = w' := by
  go_enter Try.func20, Try.ntmps20
  go_wp2
  go_loop [3, 4] (fun v i => ∃ k : Nat, k ≤ zs.length ∧ i = .int .i64 k ∧ v = .int .u64 (foldW tupStep 2870177450012600261 (zs.take k))) (fun _ i => zs.length - (intOf i).toNat)
  case atStart => exact ⟨0, Nat.zero_le _, rfl, rfl⟩
  case round =>
    obtain ⟨k, hk, rfl, rfl⟩ := hrel
    by_cases hlt : k < zs.length
    · obtain ⟨b, off, z, rfl, hz, hc⟩ := hr k hlt
      have HZ := Lib.hid hz
      clear hz
      go_wp2
      go_round
      case rel => exact ⟨k + 1, by omega, by go_num, by rw [foldW_succ _ _ _ _ _ HZ.out]; rfl⟩
      case measure => simp [intOf]; omega
    · have HT : Hid (zs.take k = zs) := List.take_of_length_le (by omega)
      go_wp2_with (go_at_call 28; refine (instead_any _ _ _).mono ?_; rintro e w' ⟨rfl, rfl⟩)
      go_ret
      exact ⟨by rw [HT.out]; rfl, rfl⟩

set_option maxHeartbeats 400000 in
theorem refFrozen_any (A : Option Addr) (c : Nat) (zs : List Int) (w : World) (hr : RdI w .i64 A zs) (hl : zs.length ≤ 3000) :
    Calls Try.prog 21 #[.slice A zs.length c] w fun e w' => e = .returned (.int .i64 (frozenV zs)) ∧ w = w' := by
  go_enter Try.func21, Try.ntmps21
  go_wp2
  go_loop [3, 4] (fun v i => ∃ k : Nat, k ≤ zs.length ∧ i = .int .i64 k ∧ v = .int .u64 (foldW froStep 0 (zs.take k))) (fun _ i => zs.length - (intOf i).toNat)
  case atStart => exact ⟨0, Nat.zero_le _, rfl, rfl⟩
  case round =>
    obtain ⟨k, hk, rfl, rfl⟩ := hrel
    by_cases hlt : k < zs.length
    · obtain ⟨b, off, z, rfl, hz, hc⟩ := hr k hlt
      have HZ := Lib.hid hz
      clear hz
      go_wp2
      go_round
      case rel => exact ⟨k + 1, by omega, by go_num, by rw [foldW_succ _ _ _ _ _ HZ.out]; rfl⟩
      case measure => simp [intOf]; omega
    · have HT : Hid (zs.take k = zs) := List.take_of_length_le (by omega)
      go_wp2_with (go_at_call 28; refine (instead_any _ _ _).mono ?_; rintro e w' ⟨rfl, rfl⟩)
      go_ret
      exact ⟨by rw [HT.out]; rfl, rfl⟩

/-- One step of Text's hash: over the bytes. -/
def txtStep (x : Int) (c : UInt8) : Int := IntKind.u64.wrap (bits BinOp.xor IntKind.u64 x (IntKind.u64.wrap (c.toNat : Int)) * 1099511628211)
def textV (l : List UInt8) : Int := insteadV (l.foldl txtStep 14695981039346656037) (-2)
theorem txt_succ (s : ByteArray) (k : Nat) (h : k < s.size) : (s.data.toList.take (k + 1)).foldl txtStep 14695981039346656037 = txtStep ((s.data.toList.take k).foldl txtStep 14695981039346656037) s[k] := by
  have : s.data.toList.take (k + 1) = s.data.toList.take k ++ [s[k]] := by rw [List.take_succ_eq_append_getElem (by simpa using h)]; rfl
  rw [this, List.foldl_append]; rfl

set_option maxHeartbeats 400000 in
theorem text_any (s : ByteArray) (w : World) (hl : s.size ≤ 3000) :
    Calls Try.prog 14 #[.string s] w fun e w' => e = .returned (.int .i64 (textV s.data.toList)) ∧ Below w.heap.size w w' := by
  go_enter Try.func14, Try.ntmps14
  go_wp2
  go_loop [3, 7] (fun v i => ∃ k : Nat, k ≤ s.size ∧ i = .int .i64 k ∧ v = .int .u64 ((s.data.toList.take k).foldl txtStep 14695981039346656037)) (fun _ i => s.size - (intOf i).toNat)
  case atStart => exact ⟨0, Nat.zero_le _, rfl, rfl⟩
  case round =>
    obtain ⟨k, hk, rfl, rfl⟩ := hrel
    by_cases hlt : k < s.size
    · have HS := Lib.hid (txt_succ s k hlt)
      go_wp2
      go_round
      case rel => exact ⟨k + 1, by omega, by go_num, by rw [HS.out]; rfl⟩
      case measure => simp [intOf]; omega
    · have HT : Hid (s.data.toList.take k = s.data.toList) := List.take_of_length_le (by simp; omega)
      go_wp2_with (first
        | (go_at_call 25; refine (stands_any _ _).mono ?_; rintro e w' ⟨rfl, rfl⟩)
        | (go_at_call 24; refine (hash_any _ _ (-2) _ (by go_simp)).mono ?_; rintro e w' ⟨rfl, rfl⟩))
      go_ret
      exact ⟨by rw [HT.out]; rfl, (Below.refl _ _).alloc (Nat.le_refl _) _⟩

set_option maxHeartbeats 400000 in
theorem refText_any (s : ByteArray) (w : World) (hl : s.size ≤ 3000) :
    Calls Try.prog 15 #[.string s] w fun e w' => e = .returned (.int .i64 (textV s.data.toList)) ∧ w = w' := by
  go_enter Try.func15, Try.ntmps15
  go_wp2
  go_loop [3, 4] (fun v i => ∃ k : Nat, k ≤ s.size ∧ i = .int .i64 k ∧ v = .int .u64 ((s.data.toList.take k).foldl txtStep 14695981039346656037)) (fun _ i => s.size - (intOf i).toNat)
  case atStart => exact ⟨0, Nat.zero_le _, rfl, rfl⟩
  case round =>
    obtain ⟨k, hk, rfl, rfl⟩ := hrel
    by_cases hlt : k < s.size
    · have HS := Lib.hid (txt_succ s k hlt)
      go_wp2
      go_round
      case rel => exact ⟨k + 1, by omega, by go_num, by rw [HS.out]; rfl⟩
      case measure => simp [intOf]; omega
    · have HT : Hid (s.data.toList.take k = s.data.toList) := List.take_of_length_le (by simp; omega)
      go_wp2_with (go_at_call 28; refine (instead_any _ _ _).mono ?_; rintro e w' ⟨rfl, rfl⟩)
      go_ret
      exact ⟨by rw [HT.out]; rfl, rfl⟩

/-- A word turned right by four. -/
def rotr4 (x : Int) : Int := x % 16 * 1152921504606846976 + x / 16
def numberV (x : Int) : Int := insteadV (rotr4 (IntKind.u64.wrap x)) (-2)

set_option maxHeartbeats 400000 in
theorem rotr4_any (x : Int) (w : World) (h0 : 0 ≤ x) (h1 : x < 18446744073709551616) :
    Calls Try.prog 29 #[.int .u64 x, .int .i64 (-4)] w fun e w' => e = .returned (.int .u64 (rotr4 x)) ∧ w = w' := by
  have hb : bits BinOp.and IntKind.u64 (IntKind.u64.wrap (-4)) 63 = 60 := by kernel_rfl
  have H := Lib.hid (rotr4_l x h0 h1)
  go_enter Try.func29, Try.ntmps29
  go_wp2
  go_ret
  exact ⟨by rw [rotr4, ← H.out]; rfl, rfl⟩

set_option maxHeartbeats 400000 in
theorem number_any (x : Int) (w : World) :
    Calls Try.prog 16 #[.int .i64 x] w fun e w' => e = .returned (.int .i64 (numberV x)) ∧ Below w.heap.size w w' := by
  have h0 : 0 ≤ IntKind.u64.wrap x := by rw [wrapU64]; omega
  have h1 : IntKind.u64.wrap x < 18446744073709551616 := by rw [wrapU64]; omega
  go_enter Try.func16, Try.ntmps16
  go_wp2_with (first
        | (go_at_call 29; refine (rotr4_any _ _ h0 h1).mono ?_; rintro e w' ⟨rfl, rfl⟩)
        | (go_at_call 25; refine (stands_any _ _).mono ?_; rintro e w' ⟨rfl, rfl⟩)
        | (go_at_call 24; refine (hash_any _ _ (-2) _ (by go_simp)).mono ?_; rintro e w' ⟨rfl, rfl⟩))
  go_ret
  exact ⟨rfl, (Below.refl _ _).alloc (Nat.le_refl _) _⟩

set_option maxHeartbeats 400000 in
theorem refNumber_any (x : Int) (w : World) :
    Calls Try.prog 17 #[.int .i64 x] w fun e w' => e = .returned (.int .i64 (numberV x)) ∧ w = w' := by
  have H := Lib.hid (rotr4_r (IntKind.u64.wrap x) (by rw [wrapU64]; omega) (by rw [wrapU64]; omega))
  go_enter Try.func17, Try.ntmps17
  go_wp2_with (go_at_call 28; refine (instead_any _ _ _).mono ?_; rintro e w' ⟨rfl, rfl⟩)
  go_ret
  exact ⟨by rw [numberV, rotr4, ← H.out]; rfl, rfl⟩

theorem insteadV_ne (h o : Int) (ho : o ≠ -1) : insteadV h o ≠ -1 := by
  unfold insteadV
  split
  · exact ho
  · rename_i hh; simpa using hh

theorem take_eq_succ {xs ys : List Int} {k : Nat} {z : Int} (h : xs.take k = ys.take k) (hx : xs[k]? = some z) (hy : ys[k]? = some z) : xs.take (k + 1) = ys.take (k + 1) := by
  rw [List.take_add_one, List.take_add_one, h, hx, hy]

theorem drew_drewN (w : World) (n : Nat) : (w.drewN n).drew = w.drewN (n + 1) := rfl

set_option maxHeartbeats 400000 in
theorem same_any (A B : Option Addr) (c d : Nat) (xs ys : List Int) (w : World) (hx : RdI w .i64 A xs) (hy : RdI w .i64 B ys) (hl : xs.length ≤ 3000) (hm : ys.length ≤ 3000) :
    Calls Try.prog 22 #[.slice A xs.length c, .slice B ys.length d] w fun e w' => e = .returned (.bool (decide (xs = ys))) ∧ ∃ n, w' = w.drewN n := by
  by_cases hlen : xs.length = ys.length
  · have HL := Lib.hid hlen
    have h1 : (((xs.length : Int)) == (ys.length : Int)) = true := by simp [hlen]
    have h2 : (((xs.length : Int)) != (ys.length : Int)) = false := by simp [hlen]
    clear hlen
    go_enter Try.func22, Try.ntmps22
    go_wp2
    go_loopw [5] (fun i wr => ∃ k n : Nat, k ≤ xs.length ∧ i = .int .i64 k ∧ Hid (xs.take k = ys.take k) ∧ wr = w.drewN n) (fun i _ => xs.length - (intOf i).toNat)
    case atStart => exact ⟨0, 0, Nat.zero_le _, rfl, by simp [Hid], rfl⟩
    case round =>
      obtain ⟨k, n, hk, rfl, hT, rfl⟩ := hrel
      clear h1 h2
      by_cases hlt : k < xs.length
      · obtain ⟨b, off, z, rfl, hz, hc⟩ := hx k hlt
        have hlty : k < ys.length := by rw [← HL.out]; exact hlt
        obtain ⟨b', off', z', rfl, hz', hc'⟩ := hy k hlty
        have HZ := Lib.hid hz; have HZ' := Lib.hid hz'
        clear hz hz'
        by_cases he : z = z'
        · have e1 : (z == z') = true := by simp [he]
          have e2 : (z != z') = false := by simp [he]
          have HE := Lib.hid he
          clear he
          go_wp2
          go_quiet (fail)
          go_wp2
          go_roundw
          case rel => exact ⟨k + 1, _, by omega, by go_num, take_eq_succ hT.out HZ.out (by rw [HE.out]; exact HZ'.out), rfl⟩
          case measure => simp [intOf]; omega
        · have e1 : (z == z') = false := by simp [he]
          have e2 : (z != z') = true := by simp [he]
          have HE : Hid (xs ≠ ys) := by
            rintro rfl
            rw [HZ.out] at HZ'
            exact he (by injection HZ'.out)
          clear he
          go_wp2
          go_quiet (fail)
          go_wp2
          go_ret
          exact ⟨by rw [decide_eq_false HE.out]; rfl, _, World.drewN_drewN _ _ _⟩
      · have HE : Hid (xs = ys) := by
          have h := hT.out
          rw [List.take_of_length_le (by omega), List.take_of_length_le (by have := HL.out; omega)] at h
          exact h
        go_wp2
        go_ret
        exact ⟨by rw [decide_eq_true HE.out]; rfl, _, rfl⟩
  · have h1 : (((xs.length : Int)) == (ys.length : Int)) = false := by simp; omega
    have h2 : (((xs.length : Int)) != (ys.length : Int)) = true := by simp; omega
    have HE : Hid (xs ≠ ys) := fun h => hlen (by rw [h])
    clear hlen
    go_enter Try.func22, Try.ntmps22
    go_wp2
    go_ret
    exact ⟨by rw [decide_eq_false HE.out]; rfl, 0, rfl⟩
end Go.Proofs.Yteldccmnbngbfaa
