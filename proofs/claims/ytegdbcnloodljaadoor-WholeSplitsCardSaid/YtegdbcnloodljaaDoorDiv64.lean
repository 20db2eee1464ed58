/- The walk of math/bits.Div64. Conditions: hi < y. -/
import Derived.Test.YtegdbcnloodljaaDoorDivPlain
import Derived.Test.YtegdbcnloodljaaDoorWords
import Derived.Test.YtegdbcnloodljaaDoorShelf
import Derived.Deep.QuietTactic
import Derived.BigQuiet
import Derived.Deep.DeepCutAuto
import Derived.Deep.CutBlock
namespace Go.Proofs.YtegdbcnloodljaaDoor
set_option linter.unusedVariables false
set_option linter.unusedSimpArgs false
open Go.RowKit

/-- How many zeros lead. -/
def lz (y : Int) : Int := 64 - (Lib.bitLen y.toNat : Int)

theorem lz_any (x : Int) (w : World) (h0 : 0 ≤ x) (h1 : x ≤ 18446744073709551615) :
    Calls Tryd.prog 93 #[.int .u64 x] w fun e w' => e = .returned (.int .i64 (lz x)) ∧ w = w' :=
  (Tryd.bits_LeadingZeros64 x w h0 h1).mono fun _ _ ⟨h, h'⟩ => ⟨h, h'.symm⟩

set_option maxHeartbeats 1000000 in
set_option maxRecDepth 100000 in
theorem div64_long (hi lo y Y v1 v0 U L u1 u0 r N : Int) (w : World) (h0 : 0 < hi) (h1 : hi < y) (hy : y ≤ 18446744073709551615) (hl0 : 0 ≤ lo) (hl1 : lo ≤ 18446744073709551615)
    (z0 : 0 ≤ lz y) (z1 : lz y ≤ 63) (Y0 : 9223372036854775808 ≤ Y) (Y1 : Y ≤ 18446744073709551615) (U0 : 0 ≤ U) (U1 : U < Y) (L0 : 0 ≤ L) (L1 : L ≤ 18446744073709551615)
    (hv1 : 2147483648 ≤ v1) (hv1' : v1 ≤ 4294967295) (hv0 : 0 ≤ v0) (hv0' : v0 ≤ 4294967295) (hu1 : 0 ≤ u1) (hu1' : u1 ≤ 4294967295) (hu0 : 0 ≤ u0) (hu0' : u0 ≤ 4294967295)
    (HY : Hid (Y = v1 * 4294967296 + v0)) (HL : Hid (L = u1 * 4294967296 + u0)) (hd : Digit v1 v0 U u1 (U / v1) r) (hr : r < v1)
    (eY : IntKind.u64.wrap (y * 2 ^ (lz y).toNat) = Y) (eL : IntKind.u64.wrap (lo * 2 ^ (lz y).toNat) = L)
    (e1 : Y / 4294967296 = v1) (e2 : bits BinOp.and IntKind.u64 Y 4294967295 = v0) (e3 : L / 4294967296 = u1) (e4 : bits BinOp.and IntKind.u64 L 4294967295 = u0)
    (e5 : bits BinOp.or IntKind.u64 (IntKind.u64.wrap (hi * 2 ^ (lz y).toNat)) (lo / 2 ^ (64 - lz y).toNat) = U)
    (e7 : IntKind.u64.wrap (U - IntKind.u64.wrap (U / v1 * v1)) = r) (HD : Hid (y * 2 ^ (lz y).toNat = Y)) (HN : Hid ((U * 4294967296 + u1) * 4294967296 + u0 = N * 2 ^ (lz y).toNat)) :
    Calls Tryd.prog 81 #[.int .u64 hi, .int .u64 lo, .int .u64 y] w fun e w' => e = .returned (.tuple #[.int .u64 (N / y), .int .u64 (N % y)]) ∧ ∃ n, w' = w.drewN n := by
  go_enter Tryd.func81, Tryd.ntmps81
  go_upto_block 0 with (go_at_call 93; refine (lz_any _ _ (by omega) (by omega)).mono ?_; rintro e w' ⟨rfl, rfl⟩)
  clear eY eL e1 e2 e3 e4 e5 e7
  go_cut [15, 16] (fun sq sr wx => ∃ a b : Int, sq = .int .u64 a ∧ sr = .int .u64 b ∧ Right v1 v0 U u1 a ∧ wx = w)
  case first =>
    go_wp2_with fail
    go_loop [15, 16] (fun sq sr => ∃ a b : Int, sq = .int .u64 a ∧ sr = .int .u64 b ∧ Digit v1 v0 U u1 a b ∧ b < 4294967296) (fun sq _ => (intOf sq).toNat)
    case atStart => exact ⟨_, _, rfl, rfl, hd, by omega⟩
    case round =>
      obtain ⟨a, b, rfl, rfl, hab, hb⟩ := hrel
      have a0 := hab.q0
      have a1 := hab.few
      have b0 := hab.r0
      have HY' := HY.out
      by_cases hA : 4294967296 ≤ a
      · obtain ⟨hl, ha⟩ := hab.less hv1 hv0 (by omega) U0 hu1 (by omega) (.inl hA)
        by_cases hbr : 4294967296 ≤ b + v1
        · have hR := hl.broke hv1 hv0 (by omega) (by omega) hu1 (by omega) (by omega) hbr
          clear HY'
          go_wp2
          go_meet
          case rel => exact ⟨_, _, rfl, rfl, hR, rfl⟩
        · clear HY'
          go_wp2
          go_round
          case rel => exact ⟨_, _, rfl, rfl, hl, by omega⟩
          case measure => simp [intOf]; omega
      · obtain ⟨m0, m1⟩ := prod_word a0 (by omega) hv0 (by omega)
        by_cases hT : 4294967296 * b + u1 < a * v0
        · obtain ⟨hl, ha⟩ := hab.less hv1 hv0 (by omega) U0 hu1 (by omega) (.inr hT)
          by_cases hbr : 4294967296 ≤ b + v1
          · have hR := hl.broke hv1 hv0 (by omega) (by omega) hu1 (by omega) (by omega) hbr
            clear HY'
            go_wp2
            go_meet
            case rel => exact ⟨_, _, rfl, rfl, hR, rfl⟩
          · clear HY'
            go_wp2
            go_round
            case rel => exact ⟨_, _, rfl, rfl, hl, by omega⟩
            case measure => simp [intOf]; omega
        · have hR := hab.done hv1 hv0 (by omega) (by omega) (by omega)
          clear HY'
          go_wp2
          go_meet
          case rel => exact ⟨_, _, rfl, rfl, hR, rfl⟩
  case rest =>
    obtain ⟨a, b, rfl, rfl, hR, rfl⟩ := hcut
    clear hd hr
    have a0 := hR.q0
    have a1 := hR.q1
    have hR' := hR.rest
    rw [← HY.out] at hR'
    obtain ⟨R1, HR1⟩ : ∃ R1, Hid (R1 = U * 4294967296 + u1 - a * Y) := ⟨_, rfl⟩
    rw [← HR1.out] at hR'
    obtain ⟨r0, r1⟩ := hR'
    have eR : IntKind.u64.wrap (IntKind.u64.wrap (IntKind.u64.wrap (U * 4294967296) + u1) - IntKind.u64.wrap (a * Y)) = R1 := by
      rw [wrapU64, wrapU64, wrapU64, wrapU64, HR1.out, HY.out]
      exact rest_word hR (by omega) (by have := HY.out; omega)
    have hd2 : Digit v1 v0 R1 u0 (R1 / v1) (R1 % v1) := Digit.start hv1 hv0 (by omega) r0 (by have := HY.out; omega) (by omega)
    obtain ⟨r2, Hr2⟩ : ∃ r2, Hid (r2 = R1 % v1) := ⟨_, rfl⟩
    rw [← Hr2.out] at hd2
    have q20 := hd2.q0
    have q21 := hd2.few
    have r20 := hd2.r0
    have r21 : r2 < v1 := by rw [Hr2.out]; exact Int.emod_lt_of_pos _ (by omega)
    have eq2 : IntKind.u64.wrap (R1 - IntKind.u64.wrap (R1 / v1 * v1)) = r2 := by
      have := hd2.sum
      rw [wrapU64, wrapU64]
      generalize R1 / v1 * v1 = t at *
      omega
    go_upto_block 2 with fail
    clear eR eq2
    go_cut [18, 16] (fun sq sr wx => ∃ c d : Int, sq = .int .u64 c ∧ sr = .int .u64 d ∧ Right v1 v0 R1 u0 c ∧ wx = wc)
    case first =>
      go_wp2_with fail
      go_loop [18, 16] (fun sq sr => ∃ a b : Int, sq = .int .u64 a ∧ sr = .int .u64 b ∧ Digit v1 v0 R1 u0 a b ∧ b < 4294967296) (fun sq _ => (intOf sq).toNat)
      case atStart => exact ⟨_, _, rfl, rfl, hd2, by omega⟩
      case round =>
        obtain ⟨c, d, rfl, rfl, hab, hb⟩ := hrel
        have c0 := hab.q0
        have c1 := hab.few
        have d0 := hab.r0
        have HY' := HY.out
        by_cases hA : 4294967296 ≤ c
        · obtain ⟨hl, hc⟩ := hab.less hv1 hv0 (by omega) r0 hu0 (by omega) (.inl hA)
          by_cases hbr : 4294967296 ≤ d + v1
          · have hR := hl.broke hv1 hv0 (by omega) (by omega) hu0 (by omega) (by omega) hbr
            clear HY'
            go_wp2
            go_meet
            case rel => exact ⟨_, _, rfl, rfl, hR, rfl⟩
          · clear HY'
            go_wp2
            go_round
            case rel => exact ⟨_, _, rfl, rfl, hl, by omega⟩
            case measure => simp [intOf]; omega
        · obtain ⟨m0, m1⟩ := prod_word c0 (by omega) hv0 (by omega)
          by_cases hT : 4294967296 * d + u0 < c * v0
          · obtain ⟨hl, hc⟩ := hab.less hv1 hv0 (by omega) r0 hu0 (by omega) (.inr hT)
            by_cases hbr : 4294967296 ≤ d + v1
            · have hR := hl.broke hv1 hv0 (by omega) (by omega) hu0 (by omega) (by omega) hbr
              clear HY'
              go_wp2
              go_meet
              case rel => exact ⟨_, _, rfl, rfl, hR, rfl⟩
            · clear HY'
              go_wp2
              go_round
              case rel => exact ⟨_, _, rfl, rfl, hl, by omega⟩
              case measure => simp [intOf]; omega
          · have hR := hab.done hv1 hv0 (by omega) (by omega) (by omega)
            clear HY'
            go_wp2
            go_meet
            case rel => exact ⟨_, _, rfl, rfl, hR, rfl⟩
    case rest =>
      obtain ⟨c, d, rfl, rfl, hS, rfl⟩ := hcut
      have c0 := hS.q0
      have c1 := hS.q1
      have hS' := hS.rest
      rw [← HY.out] at hS'
      obtain ⟨R2, HR2⟩ : ∃ R2, Hid (R2 = R1 * 4294967296 + u0 - c * Y) := ⟨_, rfl⟩
      rw [← HR2.out] at hS'
      obtain ⟨s0, s1⟩ := hS'
      have eR : IntKind.u64.wrap (IntKind.u64.wrap (IntKind.u64.wrap (R1 * 4294967296) + u0) - IntKind.u64.wrap (c * Y)) = R2 := by
        rw [wrapU64, wrapU64, wrapU64, wrapU64, HR2.out, HY.out]
        exact rest_word hS (by omega) (by have := HY.out; omega)
      have hF : a * 4294967296 + c = N / y ∧ R2 / 2 ^ (lz y).toNat = N % y := by
        have := digits_make (y := y) (D := 2 ^ (lz y).toNat) (R1 := R1) (q1 := a) (q0 := c) (U := U) (u1 := u1) (u0 := u0) (N := N) (Int.pow_pos (by decide)) (by omega)
          (by rw [HD.out]; exact HR1.out) HN.out (by rw [HD.out, ← HR2.out]; exact s0) (by rw [HD.out, ← HR2.out]; exact s1)
        rw [HD.out, ← HR2.out] at this
        exact this
      have HF := Lib.hid hF
      clear hF
      go_wp2
      go_ret2
      exact ⟨by rw [← HF.out.1, ← HF.out.2]; rfl, 0, rfl⟩

set_option maxHeartbeats 1000000 in
set_option maxRecDepth 100000 in
theorem div64_short (lo y : Int) (w : World) (h1 : 0 < y) (hy : y ≤ 18446744073709551615) (hl0 : 0 ≤ lo) (hl1 : lo ≤ 18446744073709551615) :
    Calls Tryd.prog 81 #[.int .u64 0, .int .u64 lo, .int .u64 y] w fun e w' => e = .returned (.tuple #[.int .u64 (lo / y), .int .u64 (lo % y)]) ∧ ∃ n, w' = w.drewN n := by
  go_enter Tryd.func81, Tryd.ntmps81
  go_wp2
  go_quiet (fail)
  go_wp2
  go_ret2
  exact ⟨rfl, _, rfl⟩

theorem bitLenAux_lt : ∀ (f x : Nat), x < 2 ^ f → x < 2 ^ Lib.bitLenAux f x
  | 0, x, h => by simpa [Lib.bitLenAux] using h
  | f + 1, x, h => by
    rw [Lib.bitLenAux]
    split
    · subst_vars; simp
    · have ih := bitLenAux_lt f (x / 2) (by rw [Nat.pow_succ] at h; omega)
      rw [Nat.add_comm, Nat.pow_succ]
      omega

theorem bitLenAux_ge : ∀ (f x : Nat), x ≠ 0 → x < 2 ^ f → 2 ^ (Lib.bitLenAux f x - 1) ≤ x
  | 0, x, h, hx => by simp at hx; exact absurd hx h
  | f + 1, x, h, hx => by
    rw [Lib.bitLenAux, if_neg h]
    by_cases h1 : x / 2 = 0
    · have : x = 1 := by omega
      subst this
      cases f <;> simp [Lib.bitLenAux]
    · have ih := bitLenAux_ge f (x / 2) h1 (by rw [Nat.pow_succ] at hx; omega)
      have hp : Lib.bitLenAux f (x / 2) ≠ 0 := by
        intro e
        have : 0 < 2 ^ f := Nat.two_pow_pos f
        cases f with
        | zero => simp at hx; omega
        | succ f => rw [Lib.bitLenAux, if_neg h1] at e; omega
      obtain ⟨k, hk⟩ : ∃ k, Lib.bitLenAux f (x / 2) = k + 1 := ⟨_, (Nat.succ_pred_eq_of_ne_zero hp).symm⟩
      rw [hk] at ih ⊢
      simp at ih
      have : 1 + (k + 1) - 1 = k + 1 := by omega
      rw [this, Nat.pow_succ]
      omega

/-- The shift's facts: y stands between half of P and P, and P D is 2^64. -/
theorem shift_facts (hi lo y P D : Int) (hP : 0 < P) (hD : 0 < D) (hPD : P * D = 18446744073709551616) (hy : y < P) (hy2 : P ≤ 2 * y) (h0 : 0 < hi) (h1 : hi < y) (hl0 : 0 ≤ lo) (hl1 : lo < 18446744073709551616) :
    9223372036854775808 ≤ y * D ∧ y * D < 18446744073709551616 ∧ 0 ≤ hi * D ∧ hi * D < y * D ∧ 0 ≤ lo / P ∧ lo / P < D ∧ hi * D + lo / P < y * D ∧
    (hi * D + lo / P) * 18446744073709551616 + lo * D % 18446744073709551616 = (hi * 18446744073709551616 + lo) * D := by
  have a1 : P * D ≤ 2 * y * D := Int.mul_le_mul_of_nonneg_right hy2 (by omega)
  have a2 : (y + 1) * D ≤ P * D := Int.mul_le_mul_of_nonneg_right (by omega) (by omega)
  have a3 : (hi + 1) * D ≤ y * D := Int.mul_le_mul_of_nonneg_right (by omega) (by omega)
  have a4 : 0 ≤ hi * D := Int.mul_nonneg (by omega) (by omega)
  have a5 : lo / P < D := Int.ediv_lt_of_lt_mul hP (by rw [Int.mul_comm]; omega)
  have a6 : 0 ≤ lo / P := Int.ediv_nonneg hl0 (by omega)
  rw [Int.add_mul, Int.one_mul] at a2 a3
  rw [Int.mul_assoc] at a1
  have e : lo * D = lo / P * 18446744073709551616 + lo % P * D := by
    have := Int.mul_ediv_add_emod lo P
    calc lo * D = (P * (lo / P) + lo % P) * D := by rw [this]
      _ = lo / P * (P * D) + lo % P * D := by grind
      _ = _ := by rw [hPD]
  have m0 : 0 ≤ lo % P := Int.emod_nonneg _ (by omega)
  have m1 : lo % P < P := Int.emod_lt_of_pos _ hP
  have m2 : 0 ≤ lo % P * D := Int.mul_nonneg m0 (by omega)
  have m3 : (lo % P + 1) * D ≤ P * D := Int.mul_le_mul_of_nonneg_right (by omega) (by omega)
  rw [Int.add_mul, Int.one_mul] at m3
  refine ⟨by omega, by omega, a4, by omega, a6, a5, by omega, ?_⟩
  have e2 : (hi * 18446744073709551616 + lo) * D = hi * D * 18446744073709551616 + lo * D := by grind
  rw [e2]
  generalize lo * D = t at *
  generalize hi * D = u at *
  generalize lo % P * D = v at *
  generalize lo / P = x at *
  omega

theorem div64_any (hi lo y : Int) (w : World) (h0 : 0 ≤ hi) (h1 : hi < y) (hy : y ≤ 18446744073709551615) (hl0 : 0 ≤ lo) (hl1 : lo ≤ 18446744073709551615) :
    Calls Tryd.prog 81 #[.int .u64 hi, .int .u64 lo, .int .u64 y] w fun e w' =>
      e = .returned (.tuple #[.int .u64 ((hi * 18446744073709551616 + lo) / y), .int .u64 ((hi * 18446744073709551616 + lo) % y)]) ∧ ∃ n, w' = w.drewN n := by
  rcases Int.lt_or_le 0 hi with hp | hp
  · obtain ⟨Y, rfl⟩ := Int.eq_ofNat_of_zero_le (show 0 ≤ y by omega)
    have hlt := bitLenAux_lt 64 Y (by omega)
    have hge := bitLenAux_ge 64 Y (by omega) (by omega)
    have hle := Lib.bitLenAux_le 64 Y 64 (by omega)
    obtain ⟨k, hk⟩ : ∃ k, k = Lib.bitLenAux 64 Y := ⟨_, rfl⟩
    have hz : lz (Y : Int) = 64 - (k : Int) := by rw [hk]; rfl
    rw [← hk] at hlt hge hle
    have hk1 : 1 ≤ k := by
      rcases Nat.eq_zero_or_pos k with h | h
      · subst h; simp at hlt; omega
      · exact h
    obtain ⟨j, rfl⟩ : ∃ j, k = j + 1 := ⟨k - 1, by omega⟩
    have ePD : (2 : Int) ^ (j + 1) * 2 ^ (63 - j) = 18446744073709551616 := by
      rw [← Int.pow_add, show j + 1 + (63 - j) = 64 by omega]; rfl
    have hP : (0 : Int) < 2 ^ (j + 1) := Int.pow_pos (by decide)
    have hD : (0 : Int) < 2 ^ (63 - j) := Int.pow_pos (by decide)
    have hyP : (Y : Int) < 2 ^ (j + 1) := by exact_mod_cast hlt
    have hyP2 : (2 : Int) ^ (j + 1) ≤ 2 * Y := by
      have : 2 ^ (j + 1) ≤ 2 * Y := by rw [Nat.pow_succ]; simp at hge; omega
      exact_mod_cast this
    have ez : (lz (Y : Int)).toNat = 63 - j := by rw [hz]; omega
    have ez2 : (64 - lz (Y : Int)).toNat = j + 1 := by rw [hz]; omega
    obtain ⟨f1, f2, f3, f4, f5, f6, f7, f8⟩ := shift_facts hi lo Y (2 ^ (j + 1)) (2 ^ (63 - j)) hP hD ePD hyP hyP2 hp h1 hl0 (by omega)
    have eor : bits BinOp.or IntKind.u64 (IntKind.u64.wrap (hi * 2 ^ (63 - j))) (lo / 2 ^ (j + 1)) = hi * 2 ^ (63 - j) + lo / 2 ^ (j + 1) := by
      rw [wrapU64, Int.emod_eq_of_lt f3 (by omega)]
      refine or_join (63 - j) _ _ f3 (by omega) f5 (by omega) ?_ ?_
      · obtain ⟨h, rfl⟩ := Int.eq_ofNat_of_zero_le h0
        have : ((h : Int) * 2 ^ (63 - j)).toNat = h * 2 ^ (63 - j) := by
          have : ((h : Int) * 2 ^ (63 - j)) = ((h * 2 ^ (63 - j) : Nat) : Int) := by push_cast; rfl
          rw [this]; rfl
        rw [this]; exact Nat.mul_mod_left _ _
      · have : (lo / 2 ^ (j + 1)).toNat < 2 ^ (63 - j) := by
          have h := f6
          have e : ((2 : Int) ^ (63 - j)) = ((2 ^ (63 - j) : Nat) : Int) := by push_cast; rfl
          rw [e] at h
          omega
        exact this
    generalize hYv : (Y : Int) * 2 ^ (63 - j) = Yv at *
    generalize hU : hi * 2 ^ (63 - j) + lo / 2 ^ (j + 1) = U at *
    have l0 : 0 ≤ lo * 2 ^ (63 - j) % 18446744073709551616 := Int.emod_nonneg _ (by decide)
    have l1 : lo * 2 ^ (63 - j) % 18446744073709551616 < 18446744073709551616 := Int.emod_lt_of_pos _ (by decide)
    have hd := Digit.start (v1 := Yv / 4294967296) (v0 := Yv % 4294967296) (U := U) (u := lo * 2 ^ (63 - j) % 18446744073709551616 / 4294967296) (by omega) (by omega) (by omega) (by omega) (by omega) (by omega)
    refine div64_long hi lo Y Yv (Yv / 4294967296) (Yv % 4294967296) U (lo * 2 ^ (63 - j) % 18446744073709551616) (lo * 2 ^ (63 - j) % 18446744073709551616 / 4294967296) (lo * 2 ^ (63 - j) % 18446744073709551616 % 4294967296)
      (U % (Yv / 4294967296)) (hi * 18446744073709551616 + lo) w hp h1 hy hl0 hl1 (by omega) (by omega) (by omega) (by omega) (by omega) (by omega) l0 (by omega)
      (by omega) (by omega) (by omega) (by omega) (by omega) (by omega) (by omega) (by omega) (by show _ = _; omega) (by show _ = _; omega) hd ?_ ?_ ?_ rfl ?_ rfl ?_ ?_ ?_ ?_ ?_
    · exact Int.emod_lt_of_pos _ (by omega)
    · rw [ez, hYv, wrapU64]; omega
    · rw [ez, wrapU64]
    · exact and_low32 _ (by omega) (by omega)
    · exact and_low32 _ (by omega) (by omega)
    · rw [ez, ez2]; exact eor
    · have := hd.sum
      rw [wrapU64, wrapU64]
      have h2 := hd.r0
      have h3 := Int.emod_lt_of_pos U (show 0 < Yv / 4294967296 by omega)
      have h4 : Yv / 4294967296 < 18446744073709551616 := by omega
      generalize U / (Yv / 4294967296) * (Yv / 4294967296) = t at *
      generalize U % (Yv / 4294967296) = s at *
      omega
    · rw [ez]; exact hYv
    · show _ = _
      rw [ez, ← f8]
      omega
  · obtain rfl : hi = 0 := by omega
    simpa using div64_short lo y w h1 hy hl0 hl1

set_option maxHeartbeats 400000 in
theorem rem64_any (hi lo y : Int) (w : World) (h0 : 0 ≤ hi) (hh : hi ≤ 18446744073709551615) (h1 : 0 < y) (hy : y ≤ 18446744073709551615) (hl0 : 0 ≤ lo) (hl1 : lo ≤ 18446744073709551615) :
    Calls Tryd.prog 68 #[.int .u64 hi, .int .u64 lo, .int .u64 y] w fun e w' => e = .returned (.int .u64 ((hi * 18446744073709551616 + lo) % y)) ∧ ∃ n, w' = w.drewN n := by
  have a0 : 0 ≤ hi % y := Int.emod_nonneg _ (by omega)
  have a1 : hi % y < y := Int.emod_lt_of_pos _ h1
  have e := Lib.hid (show (hi % y * 18446744073709551616 + lo) % y = (hi * 18446744073709551616 + lo) % y by
    have h := Int.add_mul_emod_self_left (hi % y * 18446744073709551616 + lo) y (hi / y * 18446744073709551616)
    rw [← h]
    congr 1
    have h2 := Int.mul_ediv_add_emod hi y
    generalize hi % y = b at *
    generalize hi / y = c at *
    subst h2
    grind)
  go_enter Tryd.func68, Tryd.ntmps68
  go_wp2_with (go_at_call 81; refine (div64_any _ _ _ _ a0 a1 hy hl0 hl1).mono ?_; rintro e w' ⟨rfl, n, rfl⟩)
  go_ret
  exact ⟨by rw [← e.out]; rfl, n, rfl⟩
end Go.Proofs.YtegdbcnloodljaaDoor
