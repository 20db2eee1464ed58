/- whole.Small. -/
import Derived.Test.YtegdbcnloodljaaDoorW11
import Derived.Test.YtegdbcnloodljaaDoorSmallr
namespace Go.Proofs.YtegdbcnloodljaaDoor
set_option linter.unusedVariables false
set_option linter.unusedSimpArgs false
open Go.RowKit
set_option maxRecDepth 1000000

/-- is it an int? -/
def smB (X : Int) : Bool := decide (-9223372036854775808 ≤ X ∧ X ≤ 9223372036854775807)
def smV (X : Int) : Int := if smB X then X else 0
theorem sm_yes {X : Int} (h : -9223372036854775808 ≤ X ∧ X ≤ 9223372036854775807) : smB X = true ∧ smV X = X := by
  have : smB X = true := decide_eq_true h
  exact ⟨this, by rw [smV, this]; rfl⟩
theorem sm_no {X : Int} (h : X < -9223372036854775808 ∨ 9223372036854775807 < X) : smB X = false ∧ smV X = 0 := by
  have : smB X = false := decide_eq_false (by omega)
  exact ⟨this, by rw [smV, this]; rfl⟩

set_option maxHeartbeats 2000000 in
theorem wSmall_ok (neg : Bool) (A : Option Addr) (c : Nat) (zs : List Int) (w : World) (hW : W32 zs) (hr : RdI w .u32 A zs) (hl : zs.length ≤ c) (hc : c ≤ 9223372036854775807) :
    Calls Tryd.prog 34 #[.agg #[.bool neg, .slice A zs.length c]] w fun e w' => e = .returned (.tuple #[.int .i64 (smV (valI neg zs)), .bool (smB (valI neg zs))]) ∧ Below w.heap.size w w' := by
  have hw0 : Below w.heap.size w (w.alloc (.cells #[.bool neg, .slice A zs.length c] 24)) := (Below.refl _ _).alloc (Nat.le_refl _) _
  have hT := fun W (hb : Below w.heap.size w W) => trim_any A c zs W (hr.later hb) hl hc
  have rX : RdI w .u32 A (trimN zs) := hr.take _
  have lX := trimN_le zs
  have hX2 := trimN_w32 hW
  have nX := trimN_nt zs
  have e1 : valI neg zs = valI neg (trimN zs) := by rw [valI, valI, val_trimN]
  rw [e1]
  generalize trimN zs = ps at *
  clear e1
  match ps, hX2, nX with
  | [], _, _ =>
    have hv : valI neg [] = 0 := by cases neg <;> rfl
    obtain ⟨s1, s2⟩ := sm_yes (X := 0) (by omega)
    rw [hv, s1, s2]
    simp only [List.length_nil] at hT
    go_enter Tryd.func34, Tryd.ntmps34
    go_wp2_with (go_at_call 54; refine (hT _ hw0).mono ?_; rintro e w' ⟨rfl, rfl⟩)
    go_ret2
    exact ⟨rfl, hw0⟩
  | [z], hX2, nX =>
    obtain ⟨b0, o0, z', hA, hz, hc0⟩ := rX 0 (by simp)
    have hzz : z' = z := by simpa using hz.symm
    subst hzz
    have hb := hX2.head
    have hcl := cell_later hw0 hc0
    have hb0 : b0 < w.heap.size := World.block_lt_of_cell? w _ hc0
    simp only [Nat.add_zero] at hcl
    simp only [List.length_singleton] at hT
    subst hA
    clear hz hc0
    cases neg
    · have hv : valI false [z'] = z' := by simp [valI, val]
      obtain ⟨s1, s2⟩ := sm_yes (X := z') (by omega)
      rw [hv, s1, s2]
      go_enter Tryd.func34, Tryd.ntmps34
      go_wp2_with (go_at_call 54; refine (hT _ hw0).mono ?_; rintro e w' ⟨rfl, rfl⟩)
      go_ret2
      exact ⟨rfl, hw0⟩
    · have hv : valI true [z'] = -z' := by simp [valI, val]
      obtain ⟨s1, s2⟩ := sm_yes (X := -z') (by omega)
      rw [hv, s1, s2]
      have hng : wrap64 (IntKind.u64.wrap (-z')) = -z' := by rw [wrapU64, wrapI64]; omega
      go_enter Tryd.func34, Tryd.ntmps34
      go_wp2_with (go_at_call 54; refine (hT _ hw0).mono ?_; rintro e w' ⟨rfl, rfl⟩)
      go_ret2
      exact ⟨by first | rfl | (simp only [hng]; rfl), hw0⟩
  | [z, y], hX2, nX =>
    obtain ⟨b0, o0, z', hA, hz, hc0⟩ := rX 0 (by simp)
    obtain ⟨b1, o1, y', hA1, hy, hc1⟩ := rX 1 (by simp)
    have hzz : z' = z := by simpa using hz.symm
    have hyy : y' = y := by simpa using hy.symm
    subst hzz hyy
    have hb := hX2.head
    have hb' := hX2.tail.head
    subst hA
    injection hA1 with hA1
    injection hA1 with ea eb _
    subst ea eb
    have hcl := cell_later hw0 hc0
    have hcl1 := cell_later hw0 hc1
    have hb0 : b0 < w.heap.size := World.block_lt_of_cell? w _ hc0
    simp only [Nat.add_zero] at hcl
    simp only [List.length_cons, List.length_nil, Nat.zero_add, Nat.reduceAdd] at hT
    clear hz hy hc0 hc1
    obtain ⟨Z, hZ⟩ : ∃ Z, z' + y' * 4294967296 = Z := ⟨_, rfl⟩
    have eor : bits BinOp.or IntKind.u64 (y' * 4294967296) z' = Z := by
      rw [← hZ, Int.add_comm]
      refine or_join 32 _ _ (by omega) (by omega) (by omega) (by omega) ?_ ?_
      · obtain ⟨n, hn⟩ := Int.eq_ofNat_of_zero_le hb'.1
        rw [hn]
        have : ((n : Int) * 4294967296).toNat = n * 4294967296 := by omega
        rw [this]; exact Nat.mul_mod_left n (2 ^ 32)
      · have : (2 : Nat) ^ 32 = 4294967296 := by rfl
        omega
    have ewr : IntKind.u64.wrap (y' * 4294967296) = y' * 4294967296 := by rw [wrapU64]; omega
    have hZ0 : 0 ≤ Z := by omega
    have hZ1 : Z < 18446744073709551616 := by omega
    have hv0 : val [z', y'] = Z := by simp [val]; omega
    clear hZ
    have hng : wrap64 (IntKind.u64.wrap (-Z)) = if Z ≤ 9223372036854775808 then -Z else wrap64 (IntKind.u64.wrap (-Z)) := by
      by_cases h : Z ≤ 9223372036854775808
      · rw [if_pos h, wrapU64, wrapI64]; omega
      · rw [if_neg h]
    cases neg
    · have hv : valI false [z', y'] = Z := by rw [valI, hv0]; rfl
      by_cases h : Z ≤ 9223372036854775807
      · obtain ⟨s1, s2⟩ := sm_yes (X := Z) (by omega)
        rw [hv, s1, s2]
        clear hng
        have hng := True.intro
        go_enter Tryd.func34, Tryd.ntmps34
        go_wp2_with (first | (go_at_call 54; refine (hT _ hw0).mono ?_; rintro e w' ⟨rfl, rfl⟩) | (go_quiet (fail)))
        go_ret2
        exact ⟨by first | rfl | (simp only [hng]; rfl), by first | exact hw0 | exact hw0.trans ⟨rfl, rfl, rfl, Nat.le_refl _, fun _ _ => rfl⟩⟩
      · obtain ⟨s1, s2⟩ := sm_no (X := Z) (by omega)
        rw [hv, s1, s2]
        clear hng
        have hng := True.intro
        go_enter Tryd.func34, Tryd.ntmps34
        go_wp2_with (first | (go_at_call 54; refine (hT _ hw0).mono ?_; rintro e w' ⟨rfl, rfl⟩) | (go_quiet (fail)))
        go_ret2
        exact ⟨by first | rfl | (simp only [hng]; rfl), by first | exact hw0 | exact hw0.trans ⟨rfl, rfl, rfl, Nat.le_refl _, fun _ _ => rfl⟩⟩
    · have hv : valI true [z', y'] = -Z := by rw [valI, hv0]; rfl
      by_cases h : Z ≤ 9223372036854775808
      · obtain ⟨s1, s2⟩ := sm_yes (X := -Z) (by omega)
        rw [hv, s1, s2]
        rw [if_pos h] at hng
        go_enter Tryd.func34, Tryd.ntmps34
        go_wp2_with (first | (go_at_call 54; refine (hT _ hw0).mono ?_; rintro e w' ⟨rfl, rfl⟩) | (go_quiet (fail)))
        go_ret2
        exact ⟨by first | rfl | (simp only [hng]; rfl), by first | exact hw0 | exact hw0.trans ⟨rfl, rfl, rfl, Nat.le_refl _, fun _ _ => rfl⟩⟩
      · obtain ⟨s1, s2⟩ := sm_no (X := -Z) (by omega)
        rw [hv, s1, s2]
        clear hng
        have hng := True.intro
        go_enter Tryd.func34, Tryd.ntmps34
        go_wp2_with (first | (go_at_call 54; refine (hT _ hw0).mono ?_; rintro e w' ⟨rfl, rfl⟩) | (go_quiet (fail)))
        go_ret2
        exact ⟨by first | rfl | (simp only [hng]; rfl), by first | exact hw0 | exact hw0.trans ⟨rfl, rfl, rfl, Nat.le_refl _, fun _ _ => rfl⟩⟩
  | z :: y :: x :: rest, hX2, nX =>
    have hlen : ∃ m, (z :: y :: x :: rest).length = m ∧ 3 ≤ m := ⟨_, rfl, by simp⟩
    obtain ⟨m, hm, hm3⟩ := hlen
    have h2 := (nt_len hX2 nX 2).1 (by omega)
    have hv := valI_abs (b := neg) hX2
    obtain ⟨s1, s2⟩ := sm_no (X := valI neg (z :: y :: x :: rest)) (by
      have : (4294967296 : Int) ^ 2 = 18446744073709551616 := by decide
      omega)
    rw [s1, s2]
    rw [hm] at hT
    clear s1 s2 hv h2 rX
    have y0 : ((m : Int) == 0) = false := by simp; omega
    have y1 : ((m : Int) == 1) = false := by simp; omega
    have y2 : ((m : Int) == 2) = false := by simp; omega
    go_enter Tryd.func34, Tryd.ntmps34
    go_wp2_with (go_at_call 54; refine (hT _ hw0).mono ?_; rintro e w' ⟨rfl, rfl⟩)
    go_ret2
    exact ⟨rfl, hw0⟩
end Go.Proofs.YtegdbcnloodljaaDoor
