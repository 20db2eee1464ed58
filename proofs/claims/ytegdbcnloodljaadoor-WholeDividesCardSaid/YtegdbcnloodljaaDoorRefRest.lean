/- The reference's Rest: bit by bit, from the highest on. Conditions: the slice reads as at most a million words of 32 bits. -/
import Derived.Test.YtegdbcnloodljaaDoorRest
import Derived.Test.YtegdbcnloodljaaDoorRefa
namespace Go.Proofs.YtegdbcnloodljaaDoor
set_option linter.unusedVariables false
set_option linter.unusedSimpArgs false
open Go.RowKit

theorem val_nonneg (zs : List U32) : 0 ≤ val (vals zs) := by
  induction zs with
  | nil => simp [vals, val]
  | cons z zs ih => simp only [vals, List.map_cons, val] at ih ⊢; have := z.2.1; omega
theorem pow32 (k : Nat) : (4294967296 : Int) ^ k = 2 ^ (32 * k) := by
  rw [Int.pow_mul]; rfl
theorem val_lt (zs : List U32) : val (vals zs) < 4294967296 ^ zs.length := by
  induction zs with
  | nil => simp [vals, val]
  | cons z zs ih =>
    simp only [vals, List.map_cons, val, List.length_cons, Int.pow_succ] at ih ⊢
    have := z.2.2
    generalize val (List.map (fun x => x.1) zs) = V at *
    generalize (4294967296 : Int) ^ zs.length = P at *
    omega

/-- The bit of number 32 k + s. -/
theorem val_bit (zs : List U32) (k s : Nat) (hk : k < zs.length) (hs : s < 32) : (val (vals zs) / 2 ^ (32 * k + s)) % 2 = (u32at zs k).1 / 2 ^ s % 2 := by
  have e : vals zs = vals (zs.take k) ++ ((u32at zs k).1 :: vals (zs.drop (k + 1))) := by
    have h1 : zs = zs.take k ++ zs[k] :: zs.drop (k + 1) := by rw [← List.drop_eq_getElem_cons hk, List.take_append_drop]
    have h2 : u32at zs k = zs[k] := by simp [u32at, List.getElem?_eq_getElem hk]
    rw [h2]
    conv => lhs; rw [h1]
    rw [vals, List.map_append, List.map_cons]; rfl
  have hl : (vals (zs.take k)).length = k := by rw [vals_length, List.length_take]; omega
  have h0 := val_nonneg (zs.take k)
  have h1 := val_lt (zs.take k)
  rw [List.length_take, Nat.min_eq_left (by omega)] at h1
  rw [e, val_append, hl, val]
  obtain ⟨z, z0, z1⟩ := u32at zs k
  generalize val (vals (zs.take k)) = L at *
  generalize val (vals (zs.drop (k + 1))) = R at *
  simp only
  rw [Int.pow_add, ← pow32]
  have hP : (0 : Int) < 4294967296 ^ k := Int.pow_pos (by decide)
  generalize (4294967296 : Int) ^ k = P at *
  rw [← Int.ediv_ediv_of_nonneg (by omega), Int.add_mul_ediv_left _ _ (by omega), Int.ediv_eq_zero_of_lt h0 h1, Int.zero_add]
  have e2 : z + 4294967296 * R = z + 2 ^ s * (2 ^ (32 - s) * R) := by
    rw [← Int.mul_assoc, ← Int.pow_add, show s + (32 - s) = 32 by omega]; rfl
  have hs2 : (0 : Int) < 2 ^ s := Int.pow_pos (by decide)
  rw [e2, Int.add_mul_ediv_left _ _ (by omega)]
  have e3 : (2 : Int) ^ (32 - s) * R = 2 * (2 ^ (31 - s) * R) := by
    rw [← Int.mul_assoc, show 32 - s = (31 - s) + 1 by omega, Int.pow_succ, Int.mul_comm ((2 : Int) ^ (31 - s)) 2]
  rw [e3, Int.add_mul_emod_self_left]

/-- One round of the search: the next bit comes in. -/
theorem bit_round (V m r b : Int) (q : Nat) (hm : 0 < m) (hr : r = V / 2 ^ (q + 1) % m) (hb : V / 2 ^ q % 2 = b) : V / 2 ^ q % m = if m ≤ 2 * r + b then 2 * r + b - m else 2 * r + b := by
  have hp : (0 : Int) < 2 ^ q := Int.pow_pos (by decide)
  have e : V / 2 ^ (q + 1) = V / 2 ^ q / 2 := by rw [Int.pow_succ, Int.ediv_ediv_of_nonneg (by omega)]
  rw [e] at hr
  generalize V / 2 ^ q = X at *
  have h1 := Int.mul_ediv_add_emod (X / 2) m
  have r0 : 0 ≤ r := by rw [hr]; exact Int.emod_nonneg _ (by omega)
  have r1 : r < m := by rw [hr]; exact Int.emod_lt_of_pos _ hm
  have hX : X = (2 * r + b) + m * (2 * (X / 2 / m)) := by
    rw [← hr] at h1
    generalize X / 2 / m = t at *
    have : m * (2 * t) = 2 * (m * t) := by grind
    rw [this]
    omega
  rw [hX, Int.add_mul_emod_self_left]
  split
  · have : (2 * r + b) % m = (2 * r + b - m) % m := by rw [← Int.sub_emod_right]
    rw [this, Int.emod_eq_of_lt (by omega) (by omega)]
  · exact Int.emod_eq_of_lt (by omega) (by omega)

set_option maxRecDepth 100000 in
set_option maxHeartbeats 1000000 in
theorem refRest_any (neg : Bool) (A : Option Addr) (c : Nat) (zs : List U32) (m : Int) (w : World) (hr : RdI w .u32 A (vals zs)) (hl : zs.length ≤ c) (hc : c ≤ 9223372036854775807) (hn : zs.length ≤ 1000000) (h1 : 1 ≤ m) (h2 : m ≤ 4611686018427387904) :
    Calls Tryd.prog 40 #[.agg #[.bool neg, .slice A zs.length c], .int .i64 m] w fun e w' => e = .returned (.tuple #[.int .i64 (restRes neg m (val (vals zs) % m)), .int .i64 0]) ∧ Below w.heap.size w w' := by
  have hV := val_nonneg zs
  have hV2 := val_lt zs
  rw [pow32] at hV2
  obtain ⟨V, hVe⟩ : ∃ V, V = val (vals zs) := ⟨_, rfl⟩
  have HV := Lib.hid hVe
  have hz0 : V / 2 ^ (32 * zs.length) % m = 0 := by
    rw [hVe, Int.ediv_eq_zero_of_lt hV hV2, Int.zero_emod]
  have HZ := Lib.hid hz0
  rw [← hVe]
  clear hVe hV hV2 hz0
  go_enter Tryd.func40, Tryd.ntmps40
  go_wp2
  go_loop [6, 7] (fun sr si => ∃ (j : Nat) (r : Int), j ≤ 32 * zs.length ∧ si = .int .i64 ((j : Int) - 1) ∧ sr = .int .u64 r ∧ 0 ≤ r ∧ r < m ∧ Hid (r = V / 2 ^ j % m)) (fun _ si => (intOf si + 1).toNat)
  case atStart => exact ⟨32 * zs.length, 0, Nat.le_refl _, by first | rfl | (congr 1; omega), rfl, by omega, by omega, HZ.out.symm⟩
  case round =>
    obtain ⟨j, r, hj, rfl, rfl, r0, r1, hrV⟩ := hrel
    cases j with
    | zero =>
      have hrV1 : V % m = r := by have := hrV.out; simpa using this.symm
      have hrV' := Lib.hid hrV1
      clear hrV HZ hrV1
      cases neg
      · go_wp2
        go_ret2
        exact ⟨by rw [hrV'.out]; rfl, (Below.refl _ _).alloc (Nat.le_refl _) _⟩
      · by_cases h0 : 0 < r
        · have H2 : Hid (restRes true m r = m - r) := by show _ = _; simp [restRes, h0]
          go_wp2
          go_ret2
          exact ⟨by rw [hrV'.out, H2.out]; rfl, (Below.refl _ _).alloc (Nat.le_refl _) _⟩
        · have H2 : Hid (restRes true m r = r) := by show _ = _; simp [restRes, h0]
          go_wp2
          go_ret2
          exact ⟨by rw [hrV'.out, H2.out]; rfl, (Below.refl _ _).alloc (Nat.le_refl _) _⟩
    | succ q =>
      obtain ⟨k, s, hq, hs⟩ : ∃ k s : Nat, q = 32 * k + s ∧ s < 32 := ⟨q / 32, q % 32, by omega, by omega⟩
      have hk : k < zs.length := by omega
      obtain ⟨b, off, z, rfl, hz, hcell⟩ := hr k (by rw [vals_length]; exact hk)
      rw [vals_get zs k hk] at hz
      have hbit := val_bit zs k s hk hs
      rw [← HV.out, ← hq] at hbit
      have zz := (u32at zs k).2
      obtain ⟨z', hz'⟩ : ∃ z', (u32at zs k).1 = z' := ⟨_, rfl⟩
      rw [hz'] at hz hbit zz
      clear hz'
      obtain ⟨z0, z1⟩ := zz
      injection hz with hz
      subst hz
      obtain ⟨bit, hb2⟩ : ∃ bit, z' / 2 ^ s % 2 = bit := ⟨_, rfl⟩
      have hrd := bit_round V m r bit q (by omega) hrV.out (by rw [hbit, hb2])
      have b0 : 0 ≤ bit ∧ bit ≤ 1 := by omega
      obtain ⟨b0, b1⟩ := b0
      have hs2 : (0 : Int) < 2 ^ s := Int.pow_pos (by decide)
      have hand : bits BinOp.and IntKind.u32 (z' / 2 ^ s) 1 = bit := by
        rw [u32_and _ 1 (Int.ediv_nonneg z0 (by omega)) (by have := Int.ediv_le_self (2 ^ s) z0; omega) (by decide) (by decide)]
        rw [show ((1 : Int).toNat) = 1 from rfl, nat_mask1, ← hb2]
        have := Int.ediv_nonneg z0 (Int.le_of_lt hs2)
        omega
      have hq1 : (q : Int) / 32 = (k : Int) := by omega
      have hq2 : (q : Int) % 32 = (s : Int) := by omega
      have HQ := Lib.hid hq
      clear hq hbit hb2 hs2 HZ
      have hne : b < w.heap.size := World.block_lt_of_cell? w _ hcell
      by_cases hge : m ≤ 2 * r + bit
      · rw [if_pos hge] at hrd
        have HR := Lib.hid hrd
        clear hrd
        go_wp2
        go_round
        case rel => exact ⟨q, 2 * r + bit - m, by omega, rfl, rfl, by omega, by omega, HR.out.symm⟩
        case measure => simp [intOf]
      · rw [if_neg hge] at hrd
        have HR := Lib.hid hrd
        clear hrd
        go_wp2
        go_round
        case rel => exact ⟨q, 2 * r + bit, by omega, rfl, rfl, by omega, by omega, HR.out.symm⟩
        case measure => simp [intOf]
end Go.Proofs.YtegdbcnloodljaaDoor
