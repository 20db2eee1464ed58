/- whole.short, whole.shift: a size by a word; a size shifted left. -/
import Derived.Test.YtegdbcnloodljaaDoorD1
import Derived.Test.YtegdbcnloodljaaDoorDiv64
namespace Go.Proofs.YtegdbcnloodljaaDoor
set_option linter.unusedVariables false
set_option linter.unusedSimpArgs false
open Go.RowKit
set_option maxRecDepth 1000000

theorem or_join32 (i : Nat) (a b : Int) (ha0 : 0 ≤ a) (ha : a < 4294967296) (hb0 : 0 ≤ b) (hb : b < 4294967296) (hm : a.toNat % 2 ^ i = 0) (hl : b.toNat < 2 ^ i) : bits BinOp.or IntKind.u32 b a = b + a := by
  obtain ⟨m, rfl⟩ := Int.eq_ofNat_of_zero_le ha0
  obtain ⟨n, rfl⟩ := Int.eq_ofNat_of_zero_le hb0
  have h1 : (m : Int).toNat = m := rfl
  have h2 : (n : Int).toNat = n := rfl
  rw [h1] at hm
  rw [h2] at hl
  have := nat_join i m n hm hl
  rw [u32_or n m (by omega) (by omega), Nat.or_comm, this]
  omega

/-- a size by a word, from the highest word on. -/
def ShoI (xs : List Int) (d : Int) (k : Nat) (r : Int) (fs : List Int) : Prop := fs.length = xs.length ∧ W32 fs ∧ 0 ≤ r ∧ r < d ∧ val (xs.drop k) = d * val (fs.drop k) + r
theorem shoI_step {xs fs : List Int} {d r z : Int} {i : Nat} (h : ShoI xs d (i + 1) r fs) (hi : i < xs.length) (hz : xs[i]?.getD 0 = z) (hz0 : 0 ≤ z ∧ z ≤ 4294967295) : ShoI xs d i ((r * 4294967296 + z) % d) (fs.set i ((r * 4294967296 + z) / d)) := by
  obtain ⟨h1, h2, h3, h4, h5⟩ := h
  have q0 : 0 ≤ (r * 4294967296 + z) / d := Int.ediv_nonneg (by omega) (by omega)
  have q1 : (r * 4294967296 + z) / d < 4294967296 := by
    apply Int.ediv_lt_of_lt_mul (by omega)
    have : 4294967296 * (r + 1) ≤ 4294967296 * d := Int.mul_le_mul_of_nonneg_left (by omega) (by omega)
    omega
  refine ⟨by rw [List.length_set]; exact h1, h2.set i _ q0 (by omega), Int.emod_nonneg _ (by omega), Int.emod_lt_of_pos _ (by omega), ?_⟩
  rw [drop_word, drop_word (fs.set i _), List.drop_set_of_lt (by omega), hz, h5, List.getElem?_set_self (by omega)]
  have := Int.mul_ediv_add_emod (r * 4294967296 + z) d
  generalize (r * 4294967296 + z) / d = q at *
  generalize (r * 4294967296 + z) % d = r2 at *
  simp only [Option.getD_some]
  grind

set_option maxHeartbeats 2000000 in
theorem short_ok (A : Option Addr) (c : Nat) (xs : List Int) (d : Int) (w : World) (hX : W32 xs) (hr : RdI w .u32 A xs) (hl : xs.length ≤ c) (hc : c ≤ 9223372036854775807) (hm : xs.length ≤ 1000000) (hd0 : 0 < d) (hd1 : d ≤ 4294967295) :
    Calls Tryd.prog 82 #[.slice A xs.length c, .int .u32 d] w fun e w' => ∃ (A' : Option Addr) (c' : Nat) (fs : List Int) (r : Int), e = .returned (.tuple #[.slice A' fs.length c', .int .u32 r]) ∧ fs.length ≤ c' ∧ c' ≤ 9223372036854775807 ∧ fs.length = xs.length ∧ W32 fs ∧ FrI w' w.heap.size .u32 A' fs ∧ 0 ≤ r ∧ r < d ∧ val xs = d * val fs + r ∧ Below w.heap.size w w' := by
  have hmk : ∀ W : World, (Instr.makeSlice 22 (.int .i64 (xs.length : Int)) (.int .i64 (xs.length : Int))).run Tryd.prog W = .ok (.slice (some ⟨W.heap.size, 0, none⟩) xs.length xs.length) (W.alloc (.cells (madeCells #[.int .u32 0] xs.length) 62)) := fun W =>
    run_make_row' (P := Tryd.prog) 22 62 _ 4 Tryd.underlying22 u32_info rfl .i64 .i64 xs.length (by omega) (by omega) W
  have hown0 := World.ownsRow_lit (base := w.heap.size) (size := 1) (e := 62) w (madeCells #[.int .u32 0] xs.length) xs.length (Nat.le_refl _) (by unfold maxLen; omega) (by rw [size_madeCells]; omega)
  rw [made_zeros] at hown0
  have hR0 : RowU (w.alloc (.cells (madeCells #[.int .u32 0] xs.length) 62)) w.heap.size (List.replicate xs.length 0) := RowU.of_fr (FrI.of_own (n := xs.length) (c := xs.length) (zs := List.replicate xs.length 0) hown0)
  have HV := Lib.hid hr
  go_enter Tryd.func82, Tryd.ntmps82
  go_wp2
  go_loopw [5, 6] (fun v5 v6 wr => ∃ (k : Nat) (r : Int) (fs : List Int), v5 = .int .u32 r ∧ v6 = .int .i64 ((k : Int) - 1) ∧ k ≤ xs.length ∧ 0 ≤ r ∧ r < d ∧ Hid (ShoI xs d k r fs) ∧ RowU wr w.heap.size fs ∧ Below w.heap.size w wr) (fun _ v6 _ => (intOf v6 + 1).toNat)
  case atStart => exact ⟨xs.length, 0, List.replicate xs.length 0, rfl, rfl, Nat.le_refl _, by omega, hd0, Lib.hid ⟨by simp, W32.zeros _, by omega, hd0, by rw [List.drop_eq_nil_of_le (Nat.le_refl _), List.drop_eq_nil_of_le (by simp)]; simp [val]⟩, hR0, (Below.refl _ w).alloc (Nat.le_refl _) _⟩
  case round =>
    obtain ⟨k, r, fs, rfl, rfl, hk, hr0, hr1, hT, hR, hB⟩ := hrel
    have hfl : fs.length = xs.length := hT.out.1
    by_cases hp : 0 < k
    · obtain ⟨i, rfl⟩ : ∃ i, k = i + 1 := ⟨k - 1, by omega⟩
      have e1 : (((i + 1 : Nat) : Int) - 1) = (i : Int) := by omega
      rw [e1]
      obtain ⟨b1, o1, z, rfl, hz, hzc⟩ := HV.out i (by omega)
      have hzc := cell_later hB hzc
      have hzl : b1 < wr.heap.size := World.block_lt_of_cell? _ _ hzc
      have hzb := hX.getD i
      rw [hz] at hzb
      have hzb : 0 ≤ z ∧ z ≤ 4294967295 := hzb
      obtain ⟨old, ho, hoc, hof⟩ := hR i (by omega)
      have hgl : w.heap.size < wr.heap.size := World.block_lt_of_cell? _ _ hoc
      have hdiv := fun wx => div32_ok r z d wx hr0 hr1 hd1 hzb.1 hzb.2
      have hS := shoI_step hT.out (z := z) (by omega) (by rw [hz, Option.getD_some]) hzb
      generalize (r * 4294967296 + z) / d = q at *
      generalize (r * 4294967296 + z) % d = r2 at *
      have hb2 : 0 ≤ r2 ∧ r2 < d := ⟨hS.2.2.1, hS.2.2.2.1⟩
      have HS := Lib.hid hS
      have HB := Lib.hid hb2
      clear hS hb2 hT hz
      go_wp2_with (go_at_call 55; refine (hdiv _).mono ?_; rintro e w4 ⟨rfl, b4⟩; have hR4 := hR.later b4; obtain ⟨old4, ho4, hoc4, hof4⟩ := hR4 i (by omega); have hg4 : w.heap.size < w4.heap.size := World.block_lt_of_cell? _ _ hoc4)
      go_roundw
      case rel =>
        exact ⟨i, r2, fs.set i q, rfl, rfl, by omega, HB.out.1, HB.out.2, HS, hR4.set i (by omega) q, (hB.trans (b4.mono hB.size)).setCell (p := ⟨w.heap.size, i, none⟩) (Nat.le_refl _) _⟩
      case measure => simp [intOf]
    · have hk0 : k = 0 := by omega
      subst hk0
      obtain ⟨g1, g2, g3, g4, g5⟩ := hT.out
      go_wp2
      go_ret2
      exact ⟨some ⟨w.heap.size, 0, none⟩, xs.length, fs, r, by rw [hfl]; rfl, by omega, by omega, hfl, g2, hR.fr (Nat.le_refl _), hr0, hr1, g5, hB⟩

/-- a size shifted left. -/
def ShfI (xs : List Int) (D : Int) (i : Nat) (fs : List Int) : Prop := fs.length = xs.length + 1 ∧ W32 fs ∧ val fs = D * val (xs.take i) ∧ fs[i]?.getD 0 < D ∧ ∀ m, i < m → fs[m]?.getD 0 = 0
theorem shfI_step {xs fs : List Int} {D E x f lo hi : Int} {i : Nat} (h : ShfI xs D i fs) (hi' : i < xs.length) (hx : xs[i]?.getD 0 = x) (hxb : 0 ≤ x ∧ x ≤ 4294967295) (hf : fs[i]?.getD 0 = f) (hD : 0 < D) (hE : 0 < E) (hDE : D * E = 4294967296) (hlo : (x * D) % 4294967296 = lo) (hhi : (x * D) / 4294967296 = hi) :
    ShfI xs D (i + 1) ((fs.set i (f + lo)).set (i + 1) hi) ∧ 0 ≤ f ∧ f < D ∧ 0 ≤ lo ∧ f + lo ≤ 4294967295 ∧ lo = (x % E) * D ∧ 0 ≤ hi ∧ hi ≤ 4294967295 := by
  obtain ⟨h1, h2, h3, h4, h5⟩ := h
  have hf0 := (h2.getD i).1
  rw [hf] at hf0 h4
  have e1 : lo = (x % E) * D := by
    rw [← hlo, ← hDE, Int.mul_comm x D, Int.mul_emod_mul_of_pos _ _ hD, Int.mul_comm]
  have m0 := Int.emod_nonneg x (show E ≠ 0 by omega)
  have m1 := Int.emod_lt_of_pos x hE
  have b1 : lo ≤ 4294967296 - D := by
    rw [e1, ← hDE]
    have : (x % E) * D ≤ (E - 1) * D := Int.mul_le_mul_of_nonneg_right (by omega) (by omega)
    have e : (E - 1) * D = D * E - D := by grind
    omega
  have hxD0 : 0 ≤ x * D := Int.mul_nonneg hxb.1 (by omega)
  have hxD1 : x * D < D * 4294967296 := by
    rw [Int.mul_comm]; exact Int.mul_lt_mul_of_pos_left (by omega) hD
  have hD1 : D ≤ 4294967296 := by
    rw [← hDE]
    have : D * 1 ≤ D * E := Int.mul_le_mul_of_nonneg_left (by omega) (by omega)
    omega
  have c0 : 0 ≤ hi := by omega
  have c1 : hi < D := by omega
  have b0 : 0 ≤ lo := by omega
  have l1 : i < fs.length := by omega
  have l2 : i + 1 < (fs.set i (f + lo)).length := by rw [List.length_set]; omega
  have g1 : (fs.set i (f + lo))[i + 1]?.getD 0 = 0 := by rw [List.getElem?_set_ne (by omega)]; exact h5 (i + 1) (by omega)
  refine ⟨⟨by rw [List.length_set, List.length_set]; exact h1, (h2.set i _ (by omega) (by omega)).set _ _ c0 (by omega), ?_, ?_, ?_⟩, hf0, h4, b0, by omega, e1, c0, by omega⟩
  · rw [val_put _ _ _ l2, val_put _ _ _ l1, g1, hf, val_take_get, hx, h3, Int.pow_succ]
    have e : lo + 4294967296 * hi = x * D := by omega
    generalize (4294967296 : Int) ^ i = P at *
    have : P * (lo + 4294967296 * hi) = P * (x * D) := by rw [e]
    grind
  · rw [List.getElem?_set_self l2]; exact c1
  · intro m hm
    rw [List.getElem?_set_ne (by omega), List.getElem?_set_ne (by omega)]
    exact h5 m (by omega)

set_option maxHeartbeats 2000000 in
theorem shift_ok (A : Option Addr) (c k : Nat) (xs : List Int) (w : World) (hX : W32 xs) (hr : RdI w .u32 A xs) (hl : xs.length ≤ c) (hc : c ≤ 9223372036854775807) (hm : xs.length ≤ 1000000) (hk : k ≤ 31) :
    Calls Tryd.prog 84 #[.slice A xs.length c, .int .i64 k] w fun e w' => ∃ fs : List Int, e = .returned (.slice (some ⟨w.heap.size, 0, none⟩) (xs.length + 1) (xs.length + 1)) ∧ fs.length = xs.length + 1 ∧ W32 fs ∧ val fs = 2 ^ k * val xs ∧ RowU w' w.heap.size fs ∧ Below w.heap.size w w' := by
  have hmk : ∀ W : World, (Instr.makeSlice 22 (.int .i64 ((xs.length : Int) + 1)) (.int .i64 ((xs.length : Int) + 1))).run Tryd.prog W = .ok (.slice (some ⟨W.heap.size, 0, none⟩) (xs.length + 1) (xs.length + 1)) (W.alloc (.cells (madeCells #[.int .u32 0] (xs.length + 1)) 62)) := fun W =>
    run_make_row' (P := Tryd.prog) 22 62 _ 4 Tryd.underlying22 u32_info rfl .i64 .i64 (xs.length + 1) (by omega) (by omega) W
  have hown0 := World.ownsRow_lit (base := w.heap.size) (size := 1) (e := 62) w (madeCells #[.int .u32 0] (xs.length + 1)) (xs.length + 1) (Nat.le_refl _) (by unfold maxLen; omega) (by rw [size_madeCells]; omega)
  rw [made_zeros] at hown0
  have hR0 : RowU (w.alloc (.cells (madeCells #[.int .u32 0] (xs.length + 1)) 62)) w.heap.size (List.replicate (xs.length + 1) 0) := RowU.of_fr (FrI.of_own (n := xs.length + 1) (c := xs.length + 1) (zs := List.replicate (xs.length + 1) 0) hown0)
  have HV := Lib.hid hr
  obtain ⟨D, hD⟩ : ∃ D : Int, 2 ^ k = D := ⟨_, rfl⟩
  have hDn : (D : Int) = ((2 ^ k : Nat) : Int) := by rw [← hD, Int.natCast_pow]; rfl
  have hD0 : 0 < D := by rw [← hD]; exact Int.pow_pos (by decide)
  have hDE : D * 2 ^ (32 - k) = 4294967296 := by
    rw [← hD, ← Int.pow_add, show k + (32 - k) = 32 by omega]; rfl
  have hE0 : (0 : Int) < 2 ^ (32 - k) := Int.pow_pos (by decide)
  have hD1 : D ≤ 2147483648 := by
    have : (2 : Int) ^ k ≤ 2 ^ 31 := by
      have := Nat.pow_le_pow_right (n := 2) (by decide) hk
      have e : ((2 : Int) ^ k) = ((2 ^ k : Nat) : Int) := by rw [Int.natCast_pow]; rfl
      rw [e]; omega
    rw [← hD]; exact this
  generalize hE : (2 : Int) ^ (32 - k) = E at *
  go_enter Tryd.func84, Tryd.ntmps84
  go_wp2
  go_loopw [15] (fun v15 wr => ∃ (i : Nat) (fs : List Int), v15 = .int .i64 i ∧ i ≤ xs.length ∧ Hid (ShfI xs D i fs) ∧ RowU wr w.heap.size fs ∧ Below w.heap.size w wr) (fun v15 _ => xs.length - (intOf v15).toNat)
  case atStart => exact ⟨0, List.replicate (xs.length + 1) 0, rfl, Nat.zero_le _, Lib.hid ⟨by simp, W32.zeros _, by rw [val_zeros]; simp [val], by simpa using hD0, fun m _ => by by_cases h : m < xs.length + 1 <;> simp [h, List.getElem?_replicate]⟩, hR0, (Below.refl _ w).alloc (Nat.le_refl _) _⟩
  case round =>
    obtain ⟨i, fs, rfl, hi, hT, hR, hB⟩ := hrel
    have hfl : fs.length = xs.length + 1 := hT.out.1
    by_cases hp : i < xs.length
    · obtain ⟨b1, o1, x, rfl, hx, hxc⟩ := HV.out i hp
      have hxc := cell_later hB hxc
      have hxl : b1 < wr.heap.size := World.block_lt_of_cell? _ _ hxc
      have hxb := hX.getD i
      rw [hx] at hxb
      have hxb : 0 ≤ x ∧ x ≤ 4294967295 := hxb
      obtain ⟨f, hf, hfc, hff⟩ := hR i (by omega)
      obtain ⟨old, ho, hoc, hof⟩ := hR (i + 1) (by omega)
      have hgl : w.heap.size < wr.heap.size := World.block_lt_of_cell? _ _ hoc
      obtain ⟨lo, hlo⟩ : ∃ lo, (x * D) % 4294967296 = lo := ⟨_, rfl⟩
      obtain ⟨hi', hhi⟩ : ∃ hi', (x * D) / 4294967296 = hi' := ⟨_, rfl⟩
      obtain ⟨hS, s1, s2, s3, s4, s5, s6, s7⟩ := shfI_step hT.out hp (x := x) (f := f) (by rw [hx, Option.getD_some]) hxb (by rw [hf, Option.getD_some]) hD0 hE0 hDE hlo hhi
      have hxD : 0 ≤ x * D ∧ x * D < 18446744073709551616 := by
        refine ⟨Int.mul_nonneg hxb.1 (by omega), ?_⟩
        have h1 : x * D ≤ 4294967295 * D := Int.mul_le_mul_of_nonneg_right hxb.2 (by omega)
        omega
      have ews : IntKind.u64.wrap (x * 2 ^ k) = x * D := by rw [hD, wrapU64]; omega
      have ew1 : IntKind.u32.wrap (x * D) = lo := by rw [wrapU32]; exact hlo
      have ew2 : IntKind.u32.wrap (x * D / 4294967296) = hi' := by rw [wrapU32, hhi]; omega
      have eor : bits BinOp.or IntKind.u32 f lo = f + lo := by
        refine or_join32 k lo f (by omega) (by omega) s1 (by omega) ?_ ?_
        · obtain ⟨m, hm'⟩ := Int.eq_ofNat_of_zero_le (Int.emod_nonneg x (show E ≠ 0 by omega))
          rw [s5, hm', hDn]
          have : ((m : Int) * ((2 ^ k : Nat) : Int)).toNat = m * 2 ^ k := by rw [← Int.natCast_mul]; rfl
          rw [this]; exact Nat.mul_mod_left m (2 ^ k)
        · omega
      have HS := Lib.hid hS
      have hR2 := (hR.set i (by omega) (f + lo)).set (i + 1) (by rw [List.length_set]; omega) hi'
      have hp2 : (i : Int) < (xs.length : Int) := by omega
      have HD := Lib.hid hD
      clear hS hT hlo hhi s1 s2 s3 s4 s5 s6 s7 hx hf ho hR hD hDE hDn hE hE0
      rw [HD.out] at ews
      have ews : IntKind.u64.wrap (x * 2 ^ k) = x * D := by rw [HD.out]; exact ews
      go_wp2
      go_roundw
      case rel =>
        exact ⟨i + 1, _, by go_num, by omega, HS, hR2, (hB.setCell (p := ⟨w.heap.size, i, none⟩) (Nat.le_refl _) _).setCell (p := ⟨w.heap.size, i + 1, none⟩) (Nat.le_refl _) _⟩
      case measure => simp [intOf]; omega
    · have hk2 : i = xs.length := by omega
      subst hk2
      obtain ⟨g1, g2, g3, g4, g5⟩ := hT.out
      rw [List.take_length] at g3
      go_wp2
      go_ret
      exact ⟨fs, rfl, g1, g2, by rw [hD]; exact g3, hR, hB⟩
end Go.Proofs.YtegdbcnloodljaaDoor
